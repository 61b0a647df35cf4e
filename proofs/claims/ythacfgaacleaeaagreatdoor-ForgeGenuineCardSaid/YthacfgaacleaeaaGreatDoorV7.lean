/- Parts of a proof: InC,OpC,OpB,PaC,FgX,FgY,FgZ,PaD,PaE,PkV,PkW,FhR,FhA,FhB,FhC,PkX,PkY. No conditions. -/
import Derived.Test.YthacfgaacleaeaaGreatDoorV6
import Derived.Test.YthacfgaacleaeaaGreatDoorShelfB
import Derived.Lib.FrozenHead2
import Derived.Lib.OthersKept
import Derived.Laws.AppendOwnNone
set_option linter.unusedVariables false
set_option linter.unusedSimpArgs false
namespace Go.Proofs.YthacfgaacleaeaaGreatDoor
open Go.IntKind (i64 u32)
open Go.RowKit Sym Sha Go.ChangeShapes Go.WideShapes Go.ChangeMaps Inet
def tFold:List Value→Option (List Prop×Value) | [.int .i64 n]=>some ([0≤n∧n≤131070],.int .i64 (foldN n)) | _=>none
def SFold:Tab:=addS 159 tFold noS
theorem SFold_ok:TabOk Tryz.prog SFold:=addS_ok noS_ok (by kernel_rfl) (by (intro xs p v h hp w;unfold tFold at h;(split at h) <;> first | (cases h;done) | (simp only [Option.some.injEq,Prod.mk.injEq] at h;obtain ⟨rfl,rfl⟩:=h;exact inet_fold _ (hp _ (List.mem_cons_self ..)) w)))
abbrev CSum (P:Program) (fNew:Func):Cfg:=CC P SFold fNew
def sO (m:Nat) (ps:Nat→ByteArray) (n i:Int):St:=⟨[(3,some (.v (.int .i64 n))),(7,some (.ref 0)),(8,some (.v (.int .i64 m))),(9,some (.v (.int .i64 i)))],[.row m 1 fun i _=>.string (ps i)]⟩
def sI (m:Nat) (ps:Nat→ByteArray) (n i:Int) (s:ByteArray) (a:Int):St:=⟨[(3,some (.v (.int .i64 n))),(6,some (.ptr 1 0)),(7,some (.ref 0)),(8,some (.v (.int .i64 m))),(9,some (.v (.int .i64 i)))],[.row m 1 fun i _=>.string (ps i),.own [.v (.string s),.v (.int .i64 a),.v (.int .i64 0)]]⟩
set_option maxRecDepth 100000 in
theorem sI_round (m:Nat) (ps:Nat→ByteArray) (n i:Int) (s:ByteArray) (a:Int):roundM Tryz.prog (CSum Tryz.prog Tryz.f76) noL Tryz.f114.ntmps 2 (loopIn (loopAt Tryz.f114 0) 0) 2 [3,6,7,8,9] [] [] (sI m ps n i s a) =
 letI q3:=(2:Int);
 letI q:=n+valU (s.extract a.toNat (a+q3).toNat);
 letI q0:=(8,some (.v (.int .i64 (↑m:Int))));
 letI q1:=(0:Int);
 letI q2:=(↑s.size:Int);
 letI q4:=(6,some (.ptr 1 0));
 letI q5:=(7,some (SV.ref 0));
 .need (q1≤a∧a≤q2∧s.size≤1000000) (.ite (decide (q2 - a > q1)) (.need (q1=q1∧q1≤a∧(1:Int)≤q3∧q3≤(7:Int)∧a+q3≤q2∧s.size≤1000000) (.need (q1≤i64.wrap q∧i64.wrap q≤(131070:Int)) (.leaf (Ex.normal,St.mk [(3,some (.v (.int .i64 (foldN (i64.wrap q))))),q4,q5,q0,(9,some (.v (.int .i64 i)))] [Blk.row m 1 fun i x=>Value.string (ps i),.own [.v (.string s),.v (.int .i64 (a+q3)),.v (.int .i64 0)]])))) (.leaf (Ex.exit 2,St.mk [(3,some (.v (.int .i64 n))),q4,q5,q0,(9,some (.v (.int .i64 i)))] [Blk.row m 1 fun i x=>Value.string (ps i),.own [.v (.string s),.v (.int .i64 a),.v (.int .i64 0)]]))):=by kernel_rfl
def preS (s:ByteArray) (n:Int):Prop:=s.size % 2=0∧s.size≤100000∧0≤n∧n≤65535
def LSi (m:Nat) (ps:Nat→ByteArray):Nat→St→Option (T (Ex×St)) :=
  addL 2 (fun st=>withStr st 5 fun s=>withInt st 3 fun n=>withInt st 9 fun i=>.need (preS s n) (.need (st.H.length=2) (.need (st.tidy 2 [3,6,7,8,9] [] []=sI m ps n i s ((2 * 0:Nat):Int)) (.leaf (.normal,sI m ps (foldN (n+tot16 (s.data.toList.take (2 * (s.size / 2))))) i s ((2 * (s.size / 2):Nat):Int)))))) noL
set_option maxRecDepth 100000 in
theorem sO_round (m:Nat) (ps:Nat→ByteArray) (n i:Int):roundM Tryz.prog (CSum Tryz.prog Tryz.f76) (LSi m ps) Tryz.f114.ntmps 0 (loopAt Tryz.f114 0) 1 [3,7,8,9] [] [] (sO m ps n i) =
 letI q:=Array.mk [UInt8.ofBitVec (BitVec.ofFin (Fin.mk 0 (Nat.mod_lt 0 (BitVec.ofNat._proof_1 8))))];
 letI q5:=(↑m:Int);
 letI q0:=(8,some (.v (.int .i64 q5)));
 letI q1:=(7,some (SV.ref 0));
 letI q2:=(3,some (.v (.int .i64 n)));
 letI q3:SV:=.v (.int .i64 0);
 letI q4:=(0:Int);
 letI q6:=(6,some (.ptr 1 0));
 .ite (decide (i < q5)) (.need (q4≤i∧i < q5) (.need (i.toNat < m) (.ite (!decide ((↑(ps i.toNat).size:Int).tmod (2:Int)=q4)) (.need ((ps i.toNat).size+1≤9223372036854775807) (.need (preS (ps i.toNat++ByteArray.mk q) n) (.need (2=2) (.need (St.mk [q2,q6,q1,q0,(9,some (.v (.int .i64 i)))] [Blk.row m 1 fun i x=>Value.string (ps i),.own [.v (.string (ps i.toNat++ByteArray.mk q)),q3,q3]]=sI m ps n i (ps i.toNat++ByteArray.mk q) q4) (.leaf (Ex.normal,St.mk [(3,some (.v (.int .i64 (foldN (n+(↑(tot16 (List.take (2 * (ps i.toNat++ByteArray.mk q).size.div 2) (Array.mk ((ps i.toNat).1.toList++q.toList)).toList)):Int)))))),q1,q0,(9,some (.v (.int .i64 (i64.wrap (i+(1:Int))))))] [Blk.row m 1 fun i x=>Value.string (ps i)])))))) (.need (preS (ps i.toNat) n) (.need (2=2) (.need (St.mk [q2,q6,q1,q0,(9,some (.v (.int .i64 i)))] [Blk.row m 1 fun i x=>Value.string (ps i),.own [.v (.string (ps i.toNat)),q3,q3]]=sI m ps n i (ps i.toNat) q4) (.leaf (Ex.normal,St.mk [(3,some (.v (.int .i64 (foldN (n+(↑(tot16 (List.take (2 * (ps i.toNat).size.div 2) (ps i.toNat).1.toList)):Int)))))),q1,q0,(9,some (.v (.int .i64 (i64.wrap (i+(1:Int))))))] [Blk.row m 1 fun i x=>Value.string (ps i)])))))))) (.leaf (Ex.exit 0,St.mk [q2,q1,q0,(9,some (.v (.int .i64 i)))] [Blk.row m 1 fun i x=>Value.string (ps i)])):=by kernel_rfl
def LSum (P:Program) (C:Cfg) (fn:Func) (m:Nat) (ps:Nat→ByteArray) (nE:Int):Nat→St→Option (T (Ex×St)) :=
  addL 0 (fun st=>.need (st.H.length=1) (.need (st.tidy 1 [3,7,8,9] [] []=sO m ps (foldN 0) (0:Nat)) ((roundM P C (LSi m ps) fn.ntmps 0 (loopAt fn 0) 1 [3,7,8,9] [] [] (closeAt [] (sO m ps nE (m:Nat)))).bind (lastX 0)))) noL
set_option maxRecDepth 100000 in
theorem insum_run (m:Nat) (ps:Nat→ByteArray) (nE:Int):runO Tryz.prog (CSum Tryz.prog Tryz.f76) (LSum Tryz.prog (CSum Tryz.prog Tryz.f76) Tryz.f114 m ps nE) Tryz.f114 [.ref 0] [.row m 1 fun i _=>.string (ps i)] =
 letI q0:=(↑m:Int);
 letI q:=ps q0.toNat++ByteArray.mk (Array.mk [UInt8.ofBitVec (BitVec.ofFin (Fin.mk 0 (Nat.mod_lt 0 (BitVec.ofNat._proof_1 8))))]);
 letI q6:=(7,some (SV.ref 0));
 letI q5:SV:=.v (.int .i64 q0);
 letI q1:=[(3,some (.v (.int .i64 nE))),(6,some (.ptr 1 0)),q6,(8,some q5),(9,some q5)];
 letI q2:Value:=.int .i64 0;
 letI q3:=ps q0.toNat;
 letI q4:=(0:Int);
 .need (1=1) (.need (St.mk [(3,some (.v q2)),q6,(8,some q5),(9,some (.v q2))] [Blk.row m 1 fun i x=>Value.string (ps i)]=sO m ps q4 q4) (.ite (decide (q0 < q0)) (.need (q4≤q0∧q0 < q0) (.need (q0.toNat < m) (.ite (!decide ((↑q3.size:Int).tmod (2:Int)=q4)) (.need (q3.size+1≤9223372036854775807) (.need (preS q nE) (.need (2=2) (.need (St.mk q1 [Blk.row m 1 fun i x=>Value.string (ps i),.own [.v (.string q),.v q2,.v q2]]=sI m ps nE q0 q q4) (T.stuck 39))))) (.need (preS q3 nE) (.need (2=2) (.need (St.mk q1 [Blk.row m 1 fun i x=>Value.string (ps i),.own [.v (.string q3),.v q2,.v q2]]=sI m ps nE q0 q3 q4) (T.stuck 39))))))) (.leaf (Value.int i64 (i64.wrap (↑(Nat.bitwise bne (nE % (18446744073709551616:Int)).toNat 65535):Int)))))):=by kernel_rfl
def rO (m:Nat) (ps:Nat→ByteArray) (n i:Int):St:=⟨[(0,some (.ref 0)),(3,some (.v (.int .i64 n))),(4,some (.v (.int .i64 i)))],[.row m 1 fun i _=>.string (ps i)]⟩
def rI (m:Nat) (ps:Nat→ByteArray) (n i k:Int):St:=⟨[(0,some (.ref 0)),(3,some (.v (.int .i64 n))),(4,some (.v (.int .i64 i))),(5,some (.v (.int .i64 k)))],[.row m 1 fun i _=>.string (ps i)]⟩
set_option maxRecDepth 100000 in
theorem rI_round (m:Nat) (ps:Nat→ByteArray) (n i k:Int):roundM Tryz.prog (onlyS Tryz.prog noS) noL Tryz.f167.ntmps 2 (loopIn (loopAt Tryz.f167 0) 0) 1 [0,3,4,5] [] [] (rI m ps n i k) =
 letI q:=(5,some (.v (.int .i64 (i64.wrap (k+(2:Int))))));
 letI q0:=k+(1:Int);
 letI q1:=(0,some (SV.ref 0));
 letI q2:=(0:Int);
 letI q3:=(↑m:Int);
 .need (q2≤i∧i < q3) (.need (i.toNat < m) (.ite (decide (k < (↑(ps i.toNat).size:Int))) (.need (q2≤i∧i < q3) (.need (i.toNat < m) (.need (q2≤k∧k < (↑(ps i.toNat).size:Int)) (.need (q2≤i∧i < q3) (.need (i.toNat < m) (.ite (decide (i64.wrap q0 < (↑(ps i.toNat).size:Int))) (.need (q2≤i∧i < q3) (.need (i.toNat < m) (.need (q2≤i64.wrap q0∧i64.wrap q0 < (↑(ps i.toNat).size:Int)) (.leaf (Ex.normal,St.mk [q1,(3,some (.v (.int .i64 (i64.wrap (i64.wrap (n+i64.wrap ((256:Int) * i64.wrap (byteAt (ps i.toNat) k)))+i64.wrap (byteAt (ps i.toNat) (i64.wrap q0))))))),(4,some (.v (.int .i64 i))),q] [Blk.row m 1 fun i x=>Value.string (ps i)]))))) (.leaf (Ex.normal,St.mk [q1,(3,some (.v (.int .i64 (i64.wrap (n+i64.wrap ((256:Int) * i64.wrap (byteAt (ps i.toNat) k))))))),(4,some (.v (.int .i64 i))),q] [Blk.row m 1 fun i x=>Value.string (ps i)])))))))) (.leaf (Ex.exit 2,St.mk [q1,(3,some (.v (.int .i64 n))),(4,some (.v (.int .i64 i))),(5,some (.v (.int .i64 k)))] [Blk.row m 1 fun i x=>Value.string (ps i)])))):=by kernel_rfl
def preR (m:Nat) (ps:Nat→ByteArray) (n i:Int):Prop:=0≤i∧i < m∧(ps i.toNat).size≤100000∧0≤n∧n≤4000000000
def LRi (m:Nat) (ps:Nat→ByteArray):Nat→St→Option (T (Ex×St)) :=
  addL 2 (fun st=>withInt st 3 fun n=>withInt st 4 fun i=>.need (preR m ps n i) (.need (st.H.length=1) (.need (st.tidy 1 [0,3,4,5] [] []=rI m ps n i ((2 * 0:Nat):Int)) (.leaf (.normal,rI m ps (n+tot16 ((ps i.toNat).data.toList.take (2 * (((ps i.toNat).size+1) / 2)))) i ((2 * (((ps i.toNat).size+1) / 2):Nat):Int)))))) noL
set_option maxRecDepth 100000 in
theorem rO_round (m:Nat) (ps:Nat→ByteArray) (n i:Int):roundM Tryz.prog (onlyS Tryz.prog noS) (LRi m ps) Tryz.f167.ntmps 0 (loopAt Tryz.f167 0) 1 [0,3,4] [] [] (rO m ps n i) =
 letI q:=(0,some (SV.ref 0));
 letI q0:=(3,some (.v (.int .i64 n)));
 .ite (decide (i < (↑m:Int))) (.need (preR m ps n i) (.need (1=1) (.need (St.mk [q,q0,(4,some (.v (.int .i64 i))),(5,some (.v (.int .i64 0)))] [Blk.row m 1 fun i x=>Value.string (ps i)]=rI m ps n i (0:Int)) (.leaf (Ex.normal,St.mk [q,(3,some (.v (.int .i64 (n+(↑(tot16 (List.take (2 * ((ps i.toNat).size+1).div 2) (ps i.toNat).1.toList)):Int))))),(4,some (.v (.int .i64 (i64.wrap (i+(1:Int))))))] [Blk.row m 1 fun i x=>Value.string (ps i)]))))) (.leaf (Ex.exit 0,St.mk [q,q0,(4,some (.v (.int .i64 i)))] [Blk.row m 1 fun i x=>Value.string (ps i)])):=by kernel_rfl
def LRum (P:Program) (C:Cfg) (fn:Func) (m:Nat) (ps:Nat→ByteArray) (nE:Int):Nat→St→Option (T (Ex×St)) :=
  addL 4 (unrollB (runC P C noL fn.ntmps (loopAt fn 1)) 4 3) <|
  addL 0 (fun st=>.need (st.H.length=1) (.need (st.tidy 1 [0,3,4] [] []=rO m ps 0 (0:Nat)) ((roundM P C (LRi m ps) fn.ntmps 0 (loopAt fn 0) 1 [0,3,4] [] [] (closeAt [] (rO m ps nE (m:Nat)))).bind (lastX 0)))) noL
set_option maxRecDepth 100000 in
theorem rum_run (m:Nat) (ps:Nat→ByteArray) (nE:Int):runO Tryz.prog (onlyS Tryz.prog noS) (LRum Tryz.prog (onlyS Tryz.prog noS) Tryz.f167 m ps nE) Tryz.f167 [.ref 0] [.row m 1 fun i _=>.string (ps i)] =
 letI q3:=(65536:Int);
 letI q:=nE.tmod q3+i64.wrap (nE.tdiv q3);
 letI q6:=i64.wrap q;
 letI q0:=q6.tmod q3+i64.wrap (q6.tdiv q3);
 letI q1:=(65535:Int);
 letI q2:=(↑m:Int);
 letI q4:SV:=.v (.int .i64 0);
 letI q5:=(0,some (SV.ref 0));
 .need (1=1) (.need (St.mk [q5,(3,some q4),(4,some q4)] [Blk.row m 1 fun i x=>Value.string (ps i)]=rO m ps (0:Int) (0:Int)) (.ite (decide (q2 < q2)) (.need (preR m ps nE q2) (.need (1=1) (.need (St.mk [q5,(3,some (.v (.int .i64 nE))),(4,some (.v (.int .i64 q2))),(5,some q4)] [Blk.row m 1 fun i x=>Value.string (ps i)]=rI m ps nE q2 (0:Int)) (T.stuck 39)))) (.ite (decide (nE > q1)) (.ite (decide (i64.wrap q > q1)) (.ite (decide (i64.wrap q0 > q1)) (T.stuck 38) (.leaf (Value.int i64 (i64.wrap (q1 - i64.wrap q0))))) (.leaf (Value.int i64 (i64.wrap (q1 - i64.wrap q))))) (.leaf (Value.int i64 (i64.wrap (q1 - nE))))))):=by kernel_rfl
end Go.Proofs.YthacfgaacleaeaaGreatDoor
namespace Go.Proofs.YthacfgaacleaeaaGreatDoor
open Go.IntKind (i64 u32)
open Go.RowKit Sym Sha Go.ChangeShapes Go.WideShapes Go.ChangeMaps Inet
def totR (ps:Nat→ByteArray):Nat→Nat
  | 0=>0
  | i+1=>totR ps i+tot16 (ps i).data.toList
def FewS (m:Nat) (ps:Nat→ByteArray):Prop:=m≤6∧∀ i,i < m→(ps i).size≤10000
theorem totR_bd (ps:Nat→ByteArray):∀ i,(∀ j,j < i→(ps j).size≤10000)→totR ps i≤655350000 * i
  | 0,_=>Nat.le_refl _
  | i+1,h=>by
    have h1:=totR_bd ps i (fun j hj=>h j (by omega))
    have h2:=tot_bd (ps i).data.toList
    have h3:=h i (by omega)
    have h4:(ps i).data.toList.length=(ps i).size:=by simp
    simp only [totR]
    omega
theorem valU_two (s:ByteArray) (a:Nat) (h:a+2≤s.size):valU (s.extract a (a+2))=byteAt s a * 256+byteAt s (a+1:Nat):=by
  rw [valU_nu s a (a+2) (by omega),nu_two s a h]
theorem tot_take (l:List UInt8):∀ k,2 * k+2≤l.length→tot16 (l.take (2 * (k+1)))=tot16 (l.take (2 * k))+(256 * (l.getD (2 * k) 0).toNat+(l.getD (2 * k+1) 0).toNat):=by
  intro k h
  have e : l.take (2 * (k+1))=l.take (2 * k)++[l.getD (2 * k) 0,l.getD (2 * k+1) 0]:=by
    apply List.ext_getElem?
    intro i
    by_cases h1:i < 2 * k
    · rw [List.getElem?_append_left (by rw [List.length_take];omega),List.getElem?_take_of_lt (by omega),List.getElem?_take_of_lt h1]
    · rw [List.getElem?_append_right (by rw [List.length_take];omega),List.length_take,Nat.min_eq_left (by omega)]
      by_cases h2:i=2 * k
      · subst h2
        rw [List.getElem?_take_of_lt (by omega),Nat.sub_self]
        simp [List.getD_eq_getElem?_getD,List.getElem?_eq_getElem (show 2 * k < l.length by omega)]
      · by_cases h3:i=2 * k+1
        · subst h3
          rw [List.getElem?_take_of_lt (by omega),show 2 * k+1 - 2 * k=1 by omega]
          simp [List.getD_eq_getElem?_getD,List.getElem?_eq_getElem (show 2 * k+1 < l.length by omega)]
        · rw [List.getElem?_eq_none (by rw [List.length_take];omega),List.getElem?_eq_none (by simp;omega)]
  rw [e,tot_append _ _ (by rw [List.length_take];omega)]
  rfl
theorem tot_step (s:ByteArray) (k:Nat) (h:2 * k+2≤s.size):(tot16 (s.data.toList.take (2 * (k+1))):Int)=tot16 (s.data.toList.take (2 * k))+(byteAt s (2 * k:Nat) * 256+byteAt s (2 * k+1:Nat)):=by
  rw [tot_take _ k (by rw [show s.data.toList.length=s.size by simp];omega)]
  unfold byteAt
  simp only [Int.toNat_natCast]
  omega
theorem tot_last (s:ByteArray) (k:Nat) (h:s.size=2 * k+1):(tot16 (s.data.toList.take (2 * (k+1))):Int)=tot16 (s.data.toList.take (2 * k))+byteAt s (2 * k:Nat) * 256:=by
  have hl:s.data.toList.length=2 * k+1:=by rw [show s.data.toList.length=s.size by simp];exact h
  have e:s.data.toList.take (2 * (k+1))=s.data.toList.take (2 * k)++[s.data.toList.getD (2 * k) 0]:=by
    rw [List.take_of_length_le (by omega)]
    have:=List.take_append_drop (2 * k) s.data.toList
    conv=>lhs;rw [← this]
    congr 1
    rw [List.drop_eq_getElem_cons (by omega),List.drop_of_length_le (by omega)]
    simp [List.getD_eq_getElem?_getD,List.getElem?_eq_getElem (show 2 * k < s.data.toList.length by omega)]
  rw [e,tot_append _ _ (by rw [List.length_take];omega)]
  unfold byteAt
  rw [Int.toNat_natCast]
  simp only [tot16]
  omega
theorem tot_all (s:ByteArray) (k:Nat) (h:s.size≤k):tot16 (s.data.toList.take k)=tot16 s.data.toList:=by
  rw [List.take_of_length_le (by rw [show s.data.toList.length=s.size by simp];exact h)]
set_option maxRecDepth 100000 in
theorem sI_step (m:Nat) (ps:Nat→ByteArray) (n i:Int) (s:ByteArray) (hp:preS s n):∀ k:Nat,k≤s.size / 2→k ≠ s.size / 2→(roundM Tryz.prog (CSum Tryz.prog Tryz.f76) noL Tryz.f114.ntmps 2 (loopIn (loopAt Tryz.f114 0) 0) 2 [3,6,7,8,9] [] [] (sI m ps (foldN (n+tot16 (s.data.toList.take (2 * k)))) i s ((2 * k:Nat):Int))).ok fun r=>r.1 = .normal∧∃ j,j≤s.size / 2∧s.size / 2 - j < s.size / 2 - k∧r.2=sI m ps (foldN (n+tot16 (s.data.toList.take (2 * j)))) i s ((2 * j:Nat):Int):=by
  intro k hk hne
  obtain ⟨p1,p2,p3,p4⟩:=hp
  have hb:=fold_bd (n:=n+tot16 (s.data.toList.take (2 * k))) (by omega)
  have ht:=tot_step s k (by omega)
  have hv:=valU_two s (2 * k) (by omega)
  have b1:=byteAt_bd s (2 * k:Nat)
  have b2:=byteAt_bd s (2 * k+1:Nat)
  have e1:(((2 * k:Nat):Int)+2)=((2 * (k+1):Nat):Int):=by omega
  rw [sI_round]
  rw [e1,Int.toNat_natCast,Int.toNat_natCast,show 2 * (k+1)=2 * k+2 by omega,hv]
  have ew:i64.wrap (foldN (n+tot16 (s.data.toList.take (2 * k)))+(byteAt s (2 * k:Nat) * 256+byteAt s (2 * k+1:Nat)))=foldN (n+tot16 (s.data.toList.take (2 * k)))+(byteAt s (2 * k:Nat) * 256+byteAt s (2 * k+1:Nat)):=w64 _ (by omega) (by omega)
  rw [ew,fold_add (by omega) (by omega),Int.add_assoc,← ht]
  refine ⟨⟨by omega,by omega,by omega⟩,fun _=>⟨⟨rfl,by omega,by decide,by decide,by omega,by omega⟩,⟨by omega,by omega⟩,rfl,k+1,by omega,by omega,rfl⟩,fun h=>?_⟩
  have h:=of_decide_eq_false h
  omega
set_option maxRecDepth 100000 in
theorem sI_end (m:Nat) (ps:Nat→ByteArray) (n i:Int) (s:ByteArray) (hp:preS s n):(roundM Tryz.prog (CSum Tryz.prog Tryz.f76) noL Tryz.f114.ntmps 2 (loopIn (loopAt Tryz.f114 0) 0) 2 [3,6,7,8,9] [] [] (sI m ps (foldN (n+tot16 (s.data.toList.take (2 * (s.size / 2))))) i s ((2 * (s.size / 2):Nat):Int))).ok fun r=>r=(.exit 2,sI m ps (foldN (n+tot16 (s.data.toList.take (2 * (s.size / 2))))) i s ((2 * (s.size / 2):Nat):Int)):=by
  obtain ⟨p1,p2,p3,p4⟩:=hp
  rw [sI_round]
  refine ⟨⟨by omega,by omega,by omega⟩,fun h=>?_,fun _=>rfl⟩
  have h:=of_decide_eq_true h
  omega
theorem LSi_ok (m:Nat) (ps:Nat→ByteArray):∀ id b,(id,b) ∈ loopsOf (loopAt Tryz.f114 0)→∀ st t,LSi m ps id st=some t→RunOk Tryz.prog Tryz.f114.ntmps (.block id (.loop b)) st t :=
  one_loop (by kernel_rfl) fun st t h=>by
    rw [addL_same h]
    refine .str fun s=>.int fun n=>.int fun i=>.need fun hp=>?_
    have e:foldN (n+(tot16 (s.data.toList.take (2 * 0)):Nat))=n:=by
      rw [Nat.mul_zero,List.take_zero]
      show foldN (n+0)=n
      rw [Int.add_zero,fold_small hp.2.2.1 hp.2.2.2]
    have key:=loop_fin (st:=st) (CC_ok SFold_ok) follows (by kernel_rfl) (noloops (by kernel_rfl)) (fun k:Nat=>k≤s.size / 2) (fun k=>sI m ps (foldN (n+tot16 (s.data.toList.take (2 * k)))) i s ((2 * k:Nat):Int)) (fun k=>s.size / 2 - k) 2 [3,6,7,8,9] [] [] (s.size / 2) _ (sI_step m ps n i s hp) (sI_end m ps n i s hp) (Nat.zero_le _)
    rw [e] at key
    exact key
end Go.Proofs.YthacfgaacleaeaaGreatDoor
namespace Go.Proofs.YthacfgaacleaeaaGreatDoor
open Go.IntKind (i64 u32)
open Go.RowKit Sym Sha Go.ChangeShapes Go.WideShapes Go.ChangeMaps Inet
theorem tot_nul (s:ByteArray):tot16 (s++⟨#[0]⟩).data.toList=tot16 s.data.toList:=by
  have:(s++⟨#[0]⟩:ByteArray).data.toList=s.data.toList++[0]:=by simp
  rw [this,tot_pad]
set_option maxRecDepth 100000 in
theorem sO_step (m:Nat) (ps:Nat→ByteArray) (hf:FewS m ps):∀ i:Nat,i≤m→i ≠ m→(roundM Tryz.prog (CSum Tryz.prog Tryz.f76) (LSi m ps) Tryz.f114.ntmps 0 (loopAt Tryz.f114 0) 1 [3,7,8,9] [] [] (sO m ps (foldN (totR ps i)) (i:Nat))).ok fun r=>r.1 = .normal∧∃ j,j≤m∧m - j < m - i∧r.2=sO m ps (foldN (totR ps j)) (j:Nat):=by
  intro i hi hne
  obtain ⟨f1,f2⟩:=hf
  have hz:=f2 i (by omega)
  have hb:=fold_bd (n:=(totR ps i:Nat)) (by omega)
  have hw:i64.wrap ((i:Int)+1)=((i+1:Nat):Int):=by rw [w64 _ (by omega) (by omega)];rfl
  have fin:∀ n:Int,n=foldN (totR ps (i+1))→∃ j,j≤m∧m - j < m - i∧sO m ps n ((i+1:Nat):Int)=sO m ps (foldN (totR ps j)) (j:Nat):=fun n hn=>⟨i+1,by omega,by omega,by rw [hn]⟩
  have hs:∀ s:ByteArray,s.size % 2=0→tot16 s.data.toList=tot16 (ps i).data.toList→foldN (foldN (totR ps i)+(tot16 (s.data.toList.take (2 * (s.size / 2))):Nat))=foldN (totR ps (i+1)):=by
    intro s h1 h2
    rw [tot_all s _ (by omega),h2,fold_add (by omega) (by omega)]
    simp only [totR,Int.natCast_add]
  rw [sO_round]
  rw [hw,Int.toNat_natCast]
  refine ⟨fun _=>⟨⟨by omega,by omega⟩,by omega,fun h=>?_,fun h=>?_⟩,fun h=>?_⟩
  · have ho:(ps i).size % 2=1:=by
      simp only [Bool.not_eq_true',decide_eq_false_iff_not] at h
      rw [Int.tmod_eq_emod_of_nonneg (by omega)] at h
      omega
    have sz:(ps i++⟨#[0]⟩:ByteArray).size=(ps i).size+1:=ByteArray.size_append ..
    have h1:(ps i++⟨#[0]⟩:ByteArray).size % 2=0:=by omega
    have pre:preS (ps i++⟨#[0]⟩) (foldN (totR ps i)):=⟨h1,by omega,hb.1,hb.2⟩
    exact ⟨by omega,pre,rfl,rfl,rfl,fin _ (hs (ps i++⟨#[0]⟩) h1 (tot_nul _))⟩
  · have ho:(ps i).size % 2=0:=by
      simp only [Bool.not_eq_false',decide_eq_true_eq] at h
      rw [Int.tmod_eq_emod_of_nonneg (by omega)] at h
      omega
    have pre:preS (ps i) (foldN (totR ps i)):=⟨ho,by omega,hb.1,hb.2⟩
    exact ⟨pre,rfl,rfl,rfl,fin _ (hs (ps i) ho rfl)⟩
  · have h:=of_decide_eq_false h
    omega
def sumR (m:Nat) (ps:Nat→ByteArray):Int:=65535 - foldN (totR ps m)
theorem xor_low (n:Int) (h0:0≤n) (h1:n≤65535):i64.wrap ((Nat.bitwise bne (n % 18446744073709551616).toNat 65535:Nat):Int)=65535 - n:=by
  have key:∀ x:Nat,x < 65536→x ^^^ 65535=65535 - x:=by
    intro x hx
    have:(BitVec.ofNat 16 x ^^^ BitVec.allOnes 16)= ~~~ BitVec.ofNat 16 x:=BitVec.xor_allOnes
    have h:=congrArg BitVec.toNat this
    rw [BitVec.toNat_xor,BitVec.toNat_not,BitVec.toNat_allOnes,BitVec.toNat_ofNat,Nat.mod_eq_of_lt (by omega)] at h
    exact h
  have e:(n % 18446744073709551616).toNat=n.toNat:=by omega
  have k:=key n.toNat (by omega)
  have k:Nat.bitwise bne n.toNat 65535=65535 - n.toNat:=k
  rw [e,k,w64 _ (by omega) (by omega)]
  omega
set_option maxRecDepth 100000 in
theorem inet_Sum (m:Nat) (ps:Nat→ByteArray) (hf:FewS m ps) (v:Value) (w:World) (hv:∀ B,BlkSat B w v (.row m 1 fun i _=>.string (ps i))):Calls Tryz.prog 114 #[v] w fun e w'=>e = .returned (.int .i64 (sumR m ps))∧Below w.heap.size w w':=by
  have hC:=CC_ok SFold_ok
  refine calls_runO hC follows Tryz.func114 (by kernel_rfl) (by kernel_rfl) (one_loop (b:=loopAt Tryz.f114 0) (id:=0) (by kernel_rfl) fun st t h=>?_) (insum_run m ps (foldN (totR ps m))) ?_ (mem_row (hv [v])) rfl
  · rw [addL_same h]
    exact loop_cnt hC follows (by kernel_rfl) (LSi_ok m ps) (fun i=>i≤m) (fun i=>sO m ps (foldN (totR ps i)) (i:Nat)) (fun i=>m - i) 1 [3,7,8,9] [] [] m [] (sO_step m ps hf) (Nat.zero_le _)
  · have hb:=fold_bd (n:=(totR ps m:Nat)) (by omega)
    refine ⟨rfl,rfl,fun h=>?_,fun _=>?_⟩
    · have h:=of_decide_eq_true h;omega
    · show Value.int .i64 _=Value.int .i64 (sumR m ps)
      rw [xor_low _ hb.1 hb.2];rfl
set_option maxRecDepth 100000 in
theorem rI_step (m:Nat) (ps:Nat→ByteArray) (n i:Int) (hp:preR m ps n i):∀ k:Nat,k≤((ps i.toNat).size+1) / 2→k ≠ ((ps i.toNat).size+1) / 2→(roundM Tryz.prog (onlyS Tryz.prog noS) noL Tryz.f167.ntmps 2 (loopIn (loopAt Tryz.f167 0) 0) 1 [0,3,4,5] [] [] (rI m ps (n+tot16 ((ps i.toNat).data.toList.take (2 * k))) i ((2 * k:Nat):Int))).ok fun r=>r.1 = .normal∧∃ j,j≤((ps i.toNat).size+1) / 2∧((ps i.toNat).size+1) / 2 - j < ((ps i.toNat).size+1) / 2 - k∧r.2=rI m ps (n+tot16 ((ps i.toNat).data.toList.take (2 * j))) i ((2 * j:Nat):Int):=by
  intro k hk hne
  obtain ⟨p0,p1,p2,p3,p4⟩:=hp
  have hb:=tot_bd ((ps i.toNat).data.toList.take (2 * k))
  have hl:((ps i.toNat).data.toList.take (2 * k)).length≤(ps i.toNat).size:=by rw [List.length_take];simp;omega
  have b1:=byteAt_bd (ps i.toNat) (2 * k:Nat)
  have b2:=byteAt_bd (ps i.toNat) (2 * k+1:Nat)
  have e1:(((2 * k:Nat):Int)+2)=((2 * (k+1):Nat):Int):=by omega
  have e2:(((2 * k:Nat):Int)+1)=((2 * k+1:Nat):Int):=by omega
  have w1:i64.wrap ((2 * k+1:Nat):Int)=((2 * k+1:Nat):Int):=w64 _ (by omega) (by omega)
  have w2:i64.wrap ((2 * (k+1):Nat):Int)=((2 * (k+1):Nat):Int):=w64 _ (by omega) (by omega)
  have c1:i64.wrap (byteAt (ps i.toNat) ((2 * k:Nat):Int))=byteAt (ps i.toNat) ((2 * k:Nat):Int):=w64 _ (by omega) (by omega)
  have c2:i64.wrap (byteAt (ps i.toNat) ((2 * k+1:Nat):Int))=byteAt (ps i.toNat) ((2 * k+1:Nat):Int):=w64 _ (by omega) (by omega)
  have c3:i64.wrap (256 * byteAt (ps i.toNat) ((2 * k:Nat):Int))=256 * byteAt (ps i.toNat) ((2 * k:Nat):Int):=w64 _ (by omega) (by omega)
  rw [rI_round]
  rw [e1,e2,w1,w2,c1,c2,c3]
  generalize hT:tot16 ((ps i.toNat).data.toList.take (2 * k))=T0 at *
  have w3:i64.wrap (n+(T0:Int)+256 * byteAt (ps i.toNat) ((2 * k:Nat):Int))=n+(T0:Int)+256 * byteAt (ps i.toNat) ((2 * k:Nat):Int):=w64 _ (by omega) (by omega)
  have w4:i64.wrap (n+(T0:Int)+256 * byteAt (ps i.toNat) ((2 * k:Nat):Int)+byteAt (ps i.toNat) ((2 * k+1:Nat):Int))=n+(T0:Int)+256 * byteAt (ps i.toNat) ((2 * k:Nat):Int)+byteAt (ps i.toNat) ((2 * k+1:Nat):Int):=w64 _ (by omega) (by omega)
  rw [w3,w4]
  have fin:∀ N:Int,N=n+tot16 ((ps i.toNat).data.toList.take (2 * (k+1)))→∃ j,j≤((ps i.toNat).size+1) / 2∧((ps i.toNat).size+1) / 2 - j < ((ps i.toNat).size+1) / 2 - k∧rI m ps N i ((2 * (k+1):Nat):Int)=rI m ps (n+tot16 ((ps i.toNat).data.toList.take (2 * j))) i ((2 * j:Nat):Int):=fun N hN=>⟨k+1,by omega,by omega,by rw [hN]⟩
  have hi:i.toNat < m:=by omega
  refine ⟨⟨p0,p1⟩,hi,fun _=>⟨⟨p0,p1⟩,hi,⟨by omega,by omega⟩,⟨p0,p1⟩,hi,fun h=>⟨⟨p0,p1⟩,hi,⟨by omega,?_⟩,rfl,?_⟩,fun h=>⟨rfl,?_⟩⟩,fun h=>?_⟩
  · exact of_decide_eq_true h
  · have h:=of_decide_eq_true h
    refine fin _ ?_
    rw [tot_step _ k (by omega),hT]
    omega
  · have h:=of_decide_eq_false h
    refine fin _ ?_
    rw [tot_last _ k (by omega),hT]
    omega
  · have h:=of_decide_eq_false h
    omega
set_option maxRecDepth 100000 in
theorem rI_end (m:Nat) (ps:Nat→ByteArray) (n i N:Int) (hp:preR m ps n i):(roundM Tryz.prog (onlyS Tryz.prog noS) noL Tryz.f167.ntmps 2 (loopIn (loopAt Tryz.f167 0) 0) 1 [0,3,4,5] [] [] (rI m ps N i ((2 * (((ps i.toNat).size+1) / 2):Nat):Int))).ok fun r=>r=(.exit 2,rI m ps N i ((2 * (((ps i.toNat).size+1) / 2):Nat):Int)):=by
  obtain ⟨p0,p1,p2,p3,p4⟩:=hp
  rw [rI_round]
  refine ⟨⟨p0,p1⟩,by omega,fun h=>?_,fun _=>rfl⟩
  have h:=of_decide_eq_true h
  omega
set_option maxRecDepth 100000 in
theorem LRi_ok (m:Nat) (ps:Nat→ByteArray):∀ id b,(id,b) ∈ loopsOf (loopAt Tryz.f167 0)→∀ st t,LRi m ps id st=some t→RunOk Tryz.prog Tryz.f167.ntmps (.block id (.loop b)) st t :=
  one_loop (by kernel_rfl) fun st t h=>by
    rw [addL_same h]
    refine .int fun n=>.int fun i=>.need fun hp=>?_
    have key:=loop_fin (st:=st) (onlyS_ok noS_ok) follows (by kernel_rfl) (noloops (by kernel_rfl)) (fun k:Nat=>k≤((ps i.toNat).size+1) / 2) (fun k=>rI m ps (n+tot16 ((ps i.toNat).data.toList.take (2 * k))) i ((2 * k:Nat):Int)) (fun k=>((ps i.toNat).size+1) / 2 - k) 1 [0,3,4,5] [] [] (((ps i.toNat).size+1) / 2) _ (rI_step m ps n i hp) (rI_end m ps n i _ hp) (Nat.zero_le _)
    have e:n+(tot16 ((ps i.toNat).data.toList.take (2 * 0)):Nat)=n:=by
      rw [Nat.mul_zero,List.take_zero]
      show n+0=n
      rw [Int.add_zero]
    rw [e] at key
    exact key
set_option maxRecDepth 100000 in
theorem rO_step (m:Nat) (ps:Nat→ByteArray) (hf:FewS m ps):∀ i:Nat,i≤m→i ≠ m→(roundM Tryz.prog (onlyS Tryz.prog noS) (LRi m ps) Tryz.f167.ntmps 0 (loopAt Tryz.f167 0) 1 [0,3,4] [] [] (rO m ps (totR ps i:Nat) (i:Nat))).ok fun r=>r.1 = .normal∧∃ j,j≤m∧m - j < m - i∧r.2=rO m ps (totR ps j:Nat) (j:Nat):=by
  intro i hi hne
  obtain ⟨f1,f2⟩:=hf
  have hz:=f2 i (by omega)
  have hb:=totR_bd ps i (fun j hj=>f2 j (by omega))
  have hw:i64.wrap ((i:Int)+1)=((i+1:Nat):Int):=by rw [w64 _ (by omega) (by omega)];rfl
  have pre:preR m ps (totR ps i:Nat) (i:Nat):=⟨by omega,by omega,by rw [Int.toNat_natCast];omega,by omega,by omega⟩
  rw [rO_round]
  rw [hw,Int.toNat_natCast]
  refine ⟨fun _=>⟨pre,rfl,rfl,rfl,?_⟩,fun h=>?_⟩
  · refine ⟨i+1,by omega,by omega,?_⟩
    have e:tot16 ((ps i).data.toList.take (2 * (((ps i).size+1) / 2)))=tot16 (ps i).data.toList:=tot_all _ _ (by omega)
    have e':tot16 ((ps i).data.toList.take (2 * ((ps i).size+1).div 2))=tot16 (ps i).data.toList:=tot_all _ _ (by show (ps i).size≤2 * (((ps i).size+1) / 2);omega)
    show rO m ps ((totR ps i:Nat)+(tot16 _:Nat)) ((i+1:Nat):Int)=_
    first | rw [e] | rw [e']
    simp only [totR,Int.natCast_add]
  · have h:=of_decide_eq_false h
    omega
set_option maxRecDepth 100000 in
theorem ref04_Sum (m:Nat) (ps:Nat→ByteArray) (hf:FewS m ps) (v:Value) (w:World) (hv:∀ B,BlkSat B w v (.row m 1 fun i _=>.string (ps i))):Calls Tryz.prog 167 #[v] w fun e w'=>e = .returned (.int .i64 (sumR m ps))∧Below w.heap.size w w':=by
  have hC:CfgOk Tryz.prog (onlyS Tryz.prog noS):=onlyS_ok noS_ok
  refine calls_runO hC follows Tryz.func167 (by kernel_rfl) (by kernel_rfl) (two_loops (b1:=loopAt Tryz.f167 0) (b2:=loopAt Tryz.f167 1) (id1:=0) (id2:=4) (by kernel_rfl) (fun st t h=>?_) (fun st t h=>?_)) (rum_run m ps (totR ps m:Nat)) ?_ (mem_row (hv [v])) rfl
  · rw [addL_same (addL_other (by decide) h)]
    exact loop_cnt hC follows (by kernel_rfl) (LRi_ok m ps) (fun i=>i≤m) (fun i=>rO m ps (totR ps i:Nat) (i:Nat)) (fun i=>m - i) 1 [0,3,4] [] [] m [] (rO_step m ps hf) (Nat.zero_le _)
  · rw [addL_same h]
    exact unroll_ok hC follows (by kernel_rfl) (noloops (by kernel_rfl)) 3 st
  · have hb:=totR_bd ps m (fun j hj=>hf.2 j hj)
    have hm:=hf.1
    unfold sumR
    generalize hT:((totR ps m:Nat):Int)=n at *
    have n0:0≤n∧n≤4000000000:=by omega
    have td:∀ x:Int,0≤x→x≤4000000000→i64.wrap (x.tmod 65536+i64.wrap (x.tdiv 65536))=x % 65536+x / 65536:=fun x h0 h1=>by
      rw [Int.tdiv_eq_ediv_of_nonneg h0,Int.tmod_eq_emod_of_nonneg h0,w64 (x / 65536) (by omega) (by omega),w64 _ (by omega) (by omega)]
    rw [td n n0.1 n0.2]
    rw [td (n % 65536+n / 65536) (by omega) (by omega)]
    have fb:=fold_bd (n:=n) n0.1
    have last:∀ x:Int,x=foldN n→i64.wrap (65535 - x)=65535 - foldN n:=fun x hx=>by rw [hx];exact w64 _ (by omega) (by omega)
    refine ⟨rfl,rfl,fun h=>?_,fun _=>⟨fun h1=>⟨fun h2=>⟨fun h3=>?_,fun h3=>?_⟩,fun h2=>?_⟩,fun h1=>?_⟩⟩
    · have h:=of_decide_eq_true h;omega
    · have h3:=of_decide_eq_true h3;omega
    · have h1:=of_decide_eq_true h1
      have h2:=of_decide_eq_true h2
      have h3:=of_decide_eq_false h3
      show Value.int .i64 _=Value.int .i64 _
      rw [last]
      rw [← fold_step h1,← fold_step h2,fold_small (by omega) (by omega)]
    · have h1:=of_decide_eq_true h1
      have h2:=of_decide_eq_false h2
      show Value.int .i64 _=Value.int .i64 _
      rw [last]
      rw [← fold_step h1,fold_small (by omega) (by omega)]
    · have h1:=of_decide_eq_false h1
      show Value.int .i64 _=Value.int .i64 _
      rw [last]
      rw [fold_small (by omega) (by omega)]
end Go.Proofs.YthacfgaacleaeaaGreatDoor
namespace Go.Proofs.YthacfgaacleaeaaGreatDoor
open Go.IntKind (i64 u32)
open Go.RowKit
abbrev IsBld (B b:Nat) (l:List UInt8) (w:World):Prop:=Lib.IsBuilderF 191 5 B b (Lib.byteCells l) w
theorem bld_size:(Tryz.prog.info? 191).map (·.size)=some 2:=by kernel_rfl
theorem bld_lies:liesAt Tryz.prog Tryz.prog.depth 191 (2 / Tryz.prog.cellsOf 191) 0 191 1=true:=by kernel_rfl
set_option maxRecDepth 100000 in
set_option maxHeartbeats 1000000 in
theorem bld_check (B b:Nat) (bs:List Value) (w:World) (h:Lib.IsBuilderF 191 5 B b bs w):Calls Tryz.prog 158 #[.pointer (some ⟨b,0,none⟩)] w fun e w'=>e = .returned (.tuple #[])∧Lib.BuilderAtF 191 5 B b (.pointer (some ⟨b,0,none⟩)) bs w'∧Below B w w'∧Lib.OthersKept 5 (some b) w w':=by
  obtain ⟨j,hj,hjs⟩:=Option.map_eq_some_iff.1 bld_size
  rcases h with h | h
  · have c0:=h.cell0
    have sh:=h.shape
    have f0:=h.frozen0
    go_enter Tryz.func158,Tryz.ntmps158
    go_wp2
    rw [Lib.run_to_unsafe w ⟨b,0,none⟩ Tryz.underlying189 Tryz.underlying130 hj (by rw [hjs];decide) sh (Nat.zero_lt_succ 1)]
    simp only [Result.andThen]
    rw [Oper.upon_value]
    go_wp2
    rw [run_callFunc_extern Tryz.func178 (by kernel_rfl) (by kernel_rfl) (by kernel_rfl) (e:=Extern.AbiNoEscape.same) (by kernel_rfl)]
    rw [Lib.run_noEscape]
    simp only [Result.andThen]
    rw [Oper.upon_value]
    go_wp2
    rw [Lib.run_from_unsafe w ⟨b,0,none⟩ Tryz.underlying130 Tryz.underlying189 hj sh bld_lies]
    simp only [Result.andThen]
    rw [Oper.upon_value]
    go_wp2
    go_end0
    exact ⟨rfl,h.used _,(Below.refl B w).setCell (p:=⟨b,0,none⟩) h.1 _,(Lib.OthersKept.refl _ _ w).setCell ⟨b,0,none⟩ rfl _⟩
  · have c0:=h.cell0
    go_enter Tryz.func158,Tryz.ntmps158
    go_wp2
    rw [Lib.run_neq_ptr_same w _ Tryz.underlying189 hj]
    go_wp2
    go_end0
    exact ⟨rfl,h,Below.refl B _,Lib.OthersKept.refl _ _ _⟩
set_option maxRecDepth 100000 in
set_option maxHeartbeats 2000000 in
theorem bld_byte (B b:Nat) (l:List UInt8) (x:UInt8) (c:Int) (hx:c=(x.toNat:Int)) (w:World) (h:IsBld B b l w) (hl:l.length≤1000000000) (hw:B≤w.heap.size):Calls Tryz.prog 107 #[.pointer (some ⟨b,0,none⟩),.int .u8 c] w fun e w'=>e = .returned .nilIface∧IsBld B b (l++[x]) w'∧Below B w w'∧Lib.OthersKept 5 (some b) w w':=by
  subst hx
  obtain ⟨i0,hi,hz0,hz1,hz2⟩:=info_parts info_u8
  go_enter Tryz.func107,Tryz.ntmps107
  go_wp2_with (go_at_call 158;refine (bld_check B b _ _ h).mono ?_)
  rintro e w1 ⟨rfl,h1,hb1,hk1⟩
  obtain ⟨hB,v,hbk,hown,hne⟩:=h1
  have c0:w1.cell? ⟨b,0,none⟩=some (.pointer (some ⟨b,0,none⟩)):=by rw [Lib.cell_of_heap hbk];rfl
  have c1:w1.cell? ⟨b,1,none⟩=some v:=by rw [Lib.cell_of_heap hbk];rfl
  have hlb:(Lib.byteCells l).length=l.length:=Lib.byteCells_length l
  have hs1:=hb1.size
  go_wp2_with (at_builtin;refine wpList_append_ownF _ rfl _ _ 60 rfl B 5 i0 (.int .u8 0) 1 1 Tryz.underlying60 hi hz0 hz1 hz2 rfl (by decide) _ _ _ rfl (hown.alloc _) ⟨w1.heap.size,0,none⟩ 1 1 [.int .u8 (x.toNat:Int)] rfl rfl ?c1 ?c2 ?c3 ?c4 ?c5 ?_)
  case c1 =>
    intro j u hj
    match j,hj with
    | 0,hj=>simp at hj;subst hj;simp [Addr.add]
  case c2=>intro u hu;simp at hu;subst hu;rfl
  case c3=>unfold maxLen;omega
  case c4=>omega
  case c5=>simp;omega
  intro v' w2 hown' hgrow _
  have hlt:b < w1.heap.size:=(Array.getElem?_eq_some_iff.1 hbk).1
  have hb2:w2.heap[b]?=some (.cells #[.pointer (some ⟨b,0,none⟩),v] 191 (0,0)):=by
    rw [hgrow.block b (by simp;omega) (fun e=>hne e.symm),Lib.alloc_old w1 _ b hlt]
    exact hbk
  have d1:w2.cell? ⟨b,1,none⟩=some v:=by rw [Lib.cell_of_heap hb2];rfl
  have f1:w2.frozen? ⟨b,1,none⟩=false:=Lib.frozen_of_heap hb2 1
  obtain ⟨ao,m,cap,rfl⟩:∃ ao m cap,v' = .slice ao m cap:=by
    rcases hown'.2 with ⟨hv,_⟩ | ⟨g,cap,cur,fz,hv,_⟩
    · exact ⟨_,_,_,hv⟩
    · exact ⟨_,_,_,hv⟩
  go_wp2
  go_ret
  have e:Lib.byteCells (l++[x])=Lib.byteCells l++[.int .u8 (x.toNat:Int)]:=by rw [Lib.byteCells_append];rfl
  refine ⟨rfl,?_,?_,((hk1.alloc _).grown hgrow (Lib.ownsRowF_kind (hown.alloc _))).setCell ⟨b,1,none⟩ rfl _⟩
  · show Lib.IsBuilderF _ _ _ _ _ _
    rw [e]
    exact .inr (Lib.BuilderAtF.put (T:=191) (e:=5) hB hb2 (bs':=Lib.byteCells l++[.int .u8 (x.toNat:Int)]) (by rw [List.length_append,hlb];simpa using hown') (by decide))
  · exact ((hb1.alloc (by omega) _).grown hgrow (by simp;omega) (fun k hk=>(hown.lt k hk).1)).setCell (p:=⟨b,1,none⟩) hB _
set_option maxRecDepth 100000 in
set_option maxHeartbeats 2000000 in
theorem bld_text (B b:Nat) (l:List UInt8) (s:ByteArray) (w:World) (h:IsBld B b l w) (hl:l.length≤1000000000) (hs:s.size≤1000000000) (hw:B≤w.heap.size):Calls Tryz.prog 109 #[.pointer (some ⟨b,0,none⟩),.string s] w fun e w'=>e = .returned (.tuple #[.int .i64 s.size,.nilIface])∧IsBld B b (l++s.data.toList) w'∧Below B w w'∧Lib.OthersKept 5 (some b) w w':=by
  obtain ⟨i0,hi,hz0,hz1,hz2⟩:=info_parts info_u8
  go_enter Tryz.func109,Tryz.ntmps109
  go_wp2_with (go_at_call 158;refine (bld_check B b _ _ h).mono ?_)
  rintro e w1 ⟨rfl,h1,hb1,hk1⟩
  obtain ⟨hB,v,hbk,hown,hne⟩:=h1
  have c0:w1.cell? ⟨b,0,none⟩=some (.pointer (some ⟨b,0,none⟩)):=by rw [Lib.cell_of_heap hbk];rfl
  have c1:w1.cell? ⟨b,1,none⟩=some v:=by rw [Lib.cell_of_heap hbk];rfl
  have hlb:(Lib.byteCells l).length=l.length:=Lib.byteCells_length l
  have hs1:=hb1.size
  go_wp2_with (at_builtin;refine Lib.wpList_append_own_stringF _ rfl _ _ 60 9 rfl B 5 i0 Tryz.underlying60 Tryz.underlying9 hi hz0 hz1 hz2 _ _ _ rfl hown s rfl ?c3 ?c4 ?c5 ?_)
  case c3=>unfold maxLen;omega
  case c4=>omega
  case c5=>omega
  intro v' w2 hown' hgrow _
  have hlt:b < w1.heap.size:=(Array.getElem?_eq_some_iff.1 hbk).1
  have hb2:w2.heap[b]?=some (.cells #[.pointer (some ⟨b,0,none⟩),v] 191 (0,0)):=by
    rw [hgrow.block b hlt (fun e=>hne e.symm)]
    exact hbk
  have d1:w2.cell? ⟨b,1,none⟩=some v:=by rw [Lib.cell_of_heap hb2];rfl
  have f1:w2.frozen? ⟨b,1,none⟩=false:=Lib.frozen_of_heap hb2 1
  obtain ⟨ao,m,cap,rfl⟩:∃ ao m cap,v' = .slice ao m cap:=by
    rcases hown'.2 with ⟨hv,_⟩ | ⟨g,cap,cur,fz,hv,_⟩
    · exact ⟨_,_,_,hv⟩
    · exact ⟨_,_,_,hv⟩
  go_wp2
  go_ret2
  have e:Lib.byteCells (l++s.data.toList)=Lib.byteCells l++Lib.strCells s:=by rw [Lib.byteCells_append];rfl
  refine ⟨rfl,?_,?_,(hk1.grown hgrow (Lib.ownsRowF_kind hown)).setCell ⟨b,1,none⟩ rfl _⟩
  · show Lib.IsBuilderF _ _ _ _ _ _
    rw [e]
    exact .inr (Lib.BuilderAtF.put (T:=191) (e:=5) hB hb2 (bs':=Lib.byteCells l++Lib.strCells s) (by rw [List.length_append,Lib.strCells_length,hlb];exact hown') (by decide))
  · exact (hb1.grown hgrow (by omega) (fun k hk=>(hown.lt k hk).1)).setCell (p:=⟨b,1,none⟩) hB _
end Go.Proofs.YthacfgaacleaeaaGreatDoor
namespace Go.Proofs.YthacfgaacleaeaaGreatDoor
open Go.IntKind (i64 u32)
open Go.RowKit Sym Go.ChangeShapes Go.WideShapes Go.ChangeMaps
set_option maxRecDepth 100000 in
theorem optsize_run (k:Int) (v:ByteArray):runV Tryz.prog (onlyS Tryz.prog noS) noL Tryz.f108 [.agg #[.int .i64 k,.string v]] = .ite (decide (k≤(31:Int))) (.leaf (Value.int i64 1)) (.leaf (Value.int i64 (i64.wrap ((2:Int)+(↑v.size:Int))))):=by kernel_rfl
theorem opt_size (o:Op) (h:o.val.size≤1000000) (w:World):Calls Tryz.prog 108 #[.agg #[.int .i64 o.kind,.string o.val]] w fun e w'=>e = .returned (.int .i64 (sizeO o))∧Below w.heap.size w w':=by
  refine calls_runV (onlyS_ok noS_ok) follows Tryz.func108 (by kernel_rfl) (by kernel_rfl) noL_ok (optsize_run o.kind o.val) ?_ w
  have hw:i64.wrap (2+(o.val.size:Int))=2+(o.val.size:Int):=w64 _ (by omega) (by omega)
  unfold sizeO
  by_cases hk:o.kind≤31
  · simp [T.ok,hk]
  · simp [T.ok,hk,hw]
theorem two_cells {w:World} {a:Addr} {k:Nat} {x y:Value} (h0:w.cell? (a.add (k * 2+0))=some x) (h1:w.cell? (a.add (k * 2+1))=some y):w.cell? (a.add (k * 2))=some x∧w.cell? ⟨(a.add (k * 2)).block,(a.add (k * 2)).off+1,none⟩=some y∧(a.add (k * 2)).block < w.heap.size:=by
  have hb:=lt_of_cell h0
  have hs:=World.cell?_spot h0
  refine ⟨h0,?_,hb⟩
  rw [← h1]
  congr 1
  obtain ⟨bb,oo,ss⟩:=a
  by_cases hk:k=0
  · subst hk
    have:ss=none:=by simpa [Addr.add] using hs
    subst this
    simp [Addr.add]
  · have e1:¬ k * 2=0:=by omega
    have e2:¬ k * 2+1=0:=by omega
    simp [Addr.add,e1,hk] at hs ⊢
    omega
theorem optL_le {n:Nat} {g:Nat→Op} (h:∀ i,i < n→rightO (g i)=0):∀ k,k≤n→(optL g k).length≤255 * k
  | 0,_=>Nat.le_refl _
  | k+1,hk=>by
    have:=optL_le h k (by omega)
    have h1:=bytesO_len (h k (by omega))
    have h2:=rightO_ok (h k (by omega))
    have h3:=sizeO_bd (g k)
    simp only [optL,List.length_append]
    omega
theorem bld_below {B b:Nat} {l:List UInt8} {w w':World} (h:IsBld B b l w) (hb:Below w.heap.size w w'):IsBld B b l w':=by
  have one:∀ p,Lib.BuilderAtF 191 5 B b p (Lib.byteCells l) w→Lib.BuilderAtF 191 5 B b p (Lib.byteCells l) w':=by
    rintro p ⟨h1,v,h2,h3,h4⟩
    refine ⟨h1,v,(hb.block b (Array.getElem?_eq_some_iff.1 h2).1).trans h2,⟨h3.1,?_⟩,h4⟩
    rcases h3.2 with h5 | ⟨g,cap,cur,fz,e1,e2,e3,e4⟩
    · exact .inl h5
    · exact .inr ⟨g,cap,cur,fz,e1,e2,(hb.block g (Array.getElem?_eq_some_iff.1 e3).1).trans e3,e4⟩
  rcases h with h | h
  · exact .inl (one _ h)
  · exact .inr (one _ h)
theorem bld_lt {B b:Nat} {l:List UInt8} {w:World} (h:IsBld B b l w):b < w.heap.size:=by
  rcases h with h | h <;> exact h.lt
def bldLen (w:World) (b:Nat):Nat:=match w.cell? ⟨b,1,none⟩ with | some (.slice _ n _)=>n | _=>0
theorem bld_len {B b:Nat} {l:List UInt8} {w:World} (h:IsBld B b l w):bldLen w b=l.length:=by
  have one:∀ p,Lib.BuilderAtF 191 5 B b p (Lib.byteCells l) w→bldLen w b=l.length:=by
    rintro p ⟨h1,v,h2,h3,h4⟩
    have c1:w.cell? ⟨b,1,none⟩=some v:=by rw [Lib.cell_of_heap h2];rfl
    have hl:(Lib.byteCells l).length=l.length:=Lib.byteCells_length l
    unfold bldLen
    rw [c1]
    rcases h3.2 with ⟨rfl,h5⟩ | ⟨g,cap,cur,fz,rfl,e2⟩
    · show 0=_;omega
    · exact hl
  rcases h with h | h <;> exact one _ h
def putS (n:Nat) (g:Nat→Op):ByteArray:=if chkO n g=0 then ⟨⟨optP n g⟩⟩ else ⟨⟨[]⟩⟩
set_option maxRecDepth 100000 in
set_option maxHeartbeats 2000000 in
theorem opts_Put (n:Nat) (g:Nat→Op) (hf:Few n g) (v:Value) (w:World) (hv:∀ B,BlkSat B w v (.row n 2 fun i j=>(g i).c j)):Calls Tryz.prog 58 #[v] w fun e w'=>e = .returned (.tuple #[.string (putS n g),.int .i64 (chkO n g)])∧Below w.heap.size w w':=by
  obtain ⟨p,cap,rfl,hc1,hc2,hc3⟩:=hv [v]
  have hf':=hf
  obtain ⟨f1,f2⟩:=hf'
  by_cases hz:chkO n g=0
  · obtain ⟨hr,hs⟩:=chkO_ok hz
    have hput:putS n g=⟨⟨optP n g⟩⟩:=if_pos hz
    have hn:n≤1000:=f1
    have hch:=fun v w hv=>opts_Check n g hf v w hv
    rw [hz] at hch
    go_enter Tryz.func58,Tryz.ntmps58
    go_wp2_with (go_at_call 55;refine (hch _ _ hv).mono ?_;rintro e w1 ⟨rfl,hb1⟩)
    go_loopw [15] (fun i wr=>∃ k:Nat,k≤n∧i = .int .i64 k∧IsBld w1.heap.size w1.heap.size (optL g k) wr∧Below w1.heap.size w1 wr) (fun i _=>n - (intOf i).toNat)
    case atStart=>exact ⟨0,Nat.zero_le _,rfl,Lib.IsBuilderF.of (Lib.fresh_isBuilder 191 5 w1),(Below.refl _ w1).alloc (Nat.le_refl _) _⟩
    case round =>
      obtain ⟨k,hk,rfl,hI,hbl⟩:=hrel
      have hbs:=hbl.size
      by_cases hlt:k < n
      · obtain ⟨a,rfl,h0⟩:=hc3 k 0 hlt (by decide)
        obtain ⟨a',ha',h1⟩:=hc3 k 1 hlt (by decide)
        obtain rfl:a=a':=by simpa using ha'
        obtain ⟨r0,r1,rb⟩:=two_cells h0 h1
        have g0:=((hb1.trans (hbl.mono hb1.size)).cell (p:=a.add (k * 2)) rb).trans r0
        have g1:=((hb1.trans (hbl.mono hb1.size)).cell (p:=⟨(a.add (k * 2)).block,(a.add (k * 2)).off+1,none⟩) rb).trans r1
        obtain ⟨q1,q2,q3,q4⟩:=rightO_ok (hr k hlt)
        have hlen:=optL_le hr k (by omega)
        simp only [Op.c] at g0 g1
        clear h0 h1 r0 r1 ha'
        have hbw:=bld_lt hI
        go_wp2_with (go_at_call 107;refine (bld_byte w1.heap.size w1.heap.size (optL g k) (UInt8.ofNat (g k).kind.toNat) _ (by rw [UInt8.toNat_ofNat'];omega) _ (Lib.IsBuilderF.alloc hI _) (by omega) (by simp;omega)).mono ?_)
        rintro e w2 ⟨rfl,hI2,hb2,hk2⟩
        have ho:w2.heap[wr.heap.size]?=some (.cells #[.int .i64 (g k).kind,.string (g k).val] 70 (0,0)):=hk2 wr.heap.size _ (by first | exact Lib.heap_alloc_new _ _ | exact heap_alloc_new _ _) (by simp;omega) (fun c fz h=>by cases h)
        have o0:w2.cell? ⟨wr.heap.size,0,none⟩=some (.int .i64 (g k).kind):=by rw [Lib.cell_of_heap ho];rfl
        have o1:w2.cell? ⟨wr.heap.size,1,none⟩=some (.string (g k).val):=by rw [Lib.cell_of_heap ho];rfl
        have hbl2:=(below_alloc hbl (.cells #[.int .i64 (g k).kind,.string (g k).val] 70)).trans hb2
        have hs2:=hbl2.size
        by_cases h31:(g k).kind≤31
        · have eb:bytesO (g k)=[UInt8.ofNat (g k).kind.toNat]:=by unfold bytesO;rw [if_pos h31]
          go_wp2
          go_roundw
          case rel =>
            refine ⟨k+1,by omega,by go_num,?_,hbl2⟩
            simp only [optL]
            rw [eb]
            exact hI2
          case measure=>simp [intOf];omega
        · have eb:bytesO (g k)=UInt8.ofNat (g k).kind.toNat :: UInt8.ofNat ((g k).val.size+2) :: (g k).val.data.toList:=by unfold bytesO;rw [if_neg h31]
          have eS:sizeO (g k)=((g k).val.size+2:Nat):=by unfold sizeO;rw [if_neg h31];omega
          have hsz:=fun w=>opt_size (g k) (by omega) w
          rw [eS] at hsz
          generalize hq:(g k).val.size+2=q at hsz eb
          have hq1:(q:Int)≤255:=by omega
          have hq2:0≤(q:Int):=by omega
          go_wp2_with (go_at_call 108;refine (hsz _).mono ?_)
          rintro e w3 ⟨rfl,hb3⟩
          have hI3:=bld_below hI2 hb3
          have hs3:=hb3.size
          have ho3:w3.heap[wr.heap.size]?=_:=(hb3.block _ (Array.getElem?_eq_some_iff.1 ho).1).trans ho
          go_wp2_with (go_at_call 107;refine (bld_byte w1.heap.size w1.heap.size _ (UInt8.ofNat q) _ (by rw [UInt8.toNat_ofNat'];omega) _ hI3 (by simp;omega) (by omega)).mono ?_)
          rintro e w4 ⟨rfl,hI4,hb4,hk4⟩
          have hs4:=hb4.size
          have ho4:w4.heap[wr.heap.size]?=some (.cells #[.int .i64 (g k).kind,.string (g k).val] 70 (0,0)):=hk4 wr.heap.size _ ho3 (by simp;omega) (fun c fz h=>by cases h)
          have n1:w4.cell? ⟨wr.heap.size,1,none⟩=some (.string (g k).val):=by rw [Lib.cell_of_heap ho4];rfl
          go_wp2_with (go_at_call 109;refine (bld_text w1.heap.size w1.heap.size _ (g k).val _ hI4 (by simp;omega) (by omega) (by omega)).mono ?_)
          rintro e w5 ⟨rfl,hI5,hb5,hk5⟩
          go_wp2
          go_roundw
          case rel =>
            refine ⟨k+1,by omega,by go_num,?_,((hbl2.trans (hb3.mono hs2)).trans hb4).trans hb5⟩
            simp only [optL]
            rw [eb]
            simpa using hI5
          case measure=>simp [intOf];omega
      · obtain rfl:k=n:=by omega
        clear hc3
        have hlen:=optL_le hr k (Nat.le_refl _)
        have hpad:padN (optL g k).length < 4:=by unfold padN;omega
        have hbw:=bld_lt hI
        go_wp2
        go_loopw [] (fun wr=>∃ m:Nat,m≤padN (optL g k).length∧IsBld w1.heap.size w1.heap.size (optL g k++List.replicate m 0) wr∧Below w1.heap.size w1 wr) (fun wr=>1000000 - bldLen wr w1.heap.size)
        case atStart=>exact ⟨0,Nat.zero_le _,by simpa using hI,hbl⟩
        case round =>
          clear hI hbl hbw hbs
          obtain ⟨m,hm,hI,hbl⟩:=hrel
          have hbs:=hbl.size
          have hq:(optL g k++List.replicate m 0).length=(optL g k).length+m:=by simp
          have hln:=bld_len hI
          rw [hq] at hln
          have hLen:=Tryz.Builder_Len_f w1.heap.size w1.heap.size _ wr hI
          rw [Lib.byteCells_length,hq] at hLen
          by_cases h4:((optL g k).length+m) % 4=0
          · have hmm:m=padN (optL g k).length:=by unfold padN at hm ⊢;omega
            have ht:((((optL g k).length+m:Nat):Int)).tmod 4=0:=by rw [show (4:Int)=((4:Nat):Int) from rfl,← Int.ofNat_tmod];omega
            go_wp2_with (go_at_call 110;refine hLen.mono ?_;rintro e w2 ⟨rfl,rfl⟩)
            go_wp2_with (go_at_call 111;refine (Tryz.Builder_String_any_f w1.heap.size w1.heap.size _ _ hI hbs).mono ?_)
            rintro e w3 ⟨rfl,hI3,hb3⟩
            go_wp2
            go_ret2
            rw [hput,hz]
            subst hmm
            exact ⟨rfl,hb1.trans ((hbl.trans hb3).mono hb1.size)⟩
          · have ht:¬ ((((optL g k).length+m:Nat):Int)).tmod 4=0:=by rw [show (4:Int)=((4:Nat):Int) from rfl,← Int.ofNat_tmod];omega
            go_wp2_with (go_at_call 110;refine hLen.mono ?_;rintro e w2 ⟨rfl,rfl⟩)
            go_wp2_with (go_at_call 107;refine (bld_byte w1.heap.size w1.heap.size _ 0 _ rfl _ hI (by omega) hbs).mono ?_)
            rintro e w3 ⟨rfl,hI3,hb3,hk3⟩
            have hln3:=bld_len hI3
            rw [List.length_append,hq] at hln3
            go_wp2
            go_roundw
            case rel =>
              refine ⟨m+1,by unfold padN at hm ⊢;omega,?_,hbl.trans hb3⟩
              rw [List.replicate_succ',← List.append_assoc]
              exact hI3
            case measure=>simp at hln3;omega
  · have hput:putS n g=⟨⟨[]⟩⟩:=if_neg hz
    have hch:=fun v w hv=>opts_Check n g hf v w hv
    obtain ⟨c,hc⟩:∃ c,c=chkO n g:=⟨_,rfl⟩
    rw [← hc] at hz hch
    have HC:=Lib.hid hc
    clear hc
    go_enter Tryz.func58,Tryz.ntmps58
    go_wp2_with (go_at_call 55;refine (hch _ _ hv).mono ?_;rintro e w1 ⟨rfl,hb1⟩)
    go_ret2
    rw [hput,← HC.out]
    exact ⟨rfl,hb1⟩
end Go.Proofs.YthacfgaacleaeaaGreatDoor
namespace Go.Proofs.YthacfgaacleaeaaGreatDoor
open Go.IntKind (i64 u32)
open Go.RowKit Sym Go.ChangeShapes Go.WideShapes Go.ChangeMaps
end Go.Proofs.YthacfgaacleaeaaGreatDoor
namespace Go.Proofs.YthacfgaacleaeaaGreatDoor
open Go.IntKind (i64 u32)
open Go.RowKit Sym Go.ChangeShapes Go.WideShapes Go.ChangeMaps
end Go.Proofs.YthacfgaacleaeaaGreatDoor
namespace Go.Proofs.YthacfgaacleaeaaGreatDoor
open Go.IntKind (i64 u32)
open Go.RowKit Sym Go.ChangeShapes Go.WideShapes Go.ChangeMaps
set_option maxRecDepth 100000 in
theorem first_run (s:ByteArray):runV Tryz.prog (onlyS Tryz.prog noS) noL Tryz.f163 [.string s] =
 letI q:=Value.string (ByteArray.mk (Array.mk []));
 letI q0:=(↑s.size:Int);
 letI q6:=(1:Int);
 letI q1:=byteAt s q6;
 letI q4:=Value.int i64 0;
 letI q7:=Value.agg (Array.mk [q4,q]);
 letI q2:T Value:=.leaf (Value.tuple (Array.mk [q7,q,Value.int i64 1]));
 letI q3:=(0:Int);
 letI q5:=Value.int i64 (i64.wrap (byteAt s q3));
 letI q8:=(2:Int);
 letI q9:=i64.wrap q1;
 .need (q3≤q3∧q3 < q0) (.ite (decide (i64.wrap (byteAt s q3)≤(31:Int))) (.need (q3≤q6∧q6≤q0∧q0≤q0) (.leaf (Value.tuple (Array.mk [Value.agg (Array.mk [q5,q]),Value.string (s.extract 1 q0.toNat),q4])))) (.ite (decide (q0 < q8)) q2 (.need (q3≤q6∧q6 < q0) (.ite (decide (i64.wrap q1 < q8)) (.leaf (Value.tuple (Array.mk [q7,q,Value.int i64 4]))) (.ite (decide (i64.wrap q1 > q0)) q2 (.need (q3≤q8∧q8≤i64.wrap q1∧i64.wrap q1≤q0) (.need (q3≤i64.wrap q1∧i64.wrap q1≤q0∧q0≤q0) (.leaf (Value.tuple (Array.mk [Value.agg (Array.mk [q5,Value.string (s.extract 2 q9.toNat)]),Value.string (s.extract q9.toNat q0.toNat),q4])))))))))):=by kernel_rfl
def rd_st (s:ByteArray) (l:List Op) (a:Int):St:=⟨[(4,some (.ref 0)),(0,some (.v (.string s))),(5,some (.v (.int .i64 a)))],[.vec true 70 2 l.length (opCells l)]⟩
set_option maxRecDepth 100000 in
theorem rd_round (s:ByteArray) (l:List Op) (a:Int):roundM Tryz.prog (onlyS Tryz.prog noS) noL Tryz.f134.ntmps 0 (loopAt Tryz.f134 0) 0 [0,5] [(4,70,2)] [] (rd_st s l a) =
 letI p8:=a+(1:Int);
 letI x6:=i64.wrap p8;
 letI q:=byteAt s x6;
 letI z:=byteAt s a;
 letI x8:=i64.wrap z;
 letI q0:SV:=.v (.int .i64 x8);
 letI q1:=(↑s.size:Int);
 letI q2:SV:=.v (.int .i64 x6);
 letI q3:SV:=.v (.string s);
 letI q4:SV:=.v (.int .i64 a);
 letI q5:SV:=.v (.int .i64 (i64.wrap q));
 letI z2:=decide (i64.wrap q < (2:Int));
 letI q6:=SV.v (Value.bool z2);
 letI q7:=a+i64.wrap q;
 letI z1:=decide (i64.wrap z < (32:Int));
 letI q8:=(17,some (SV.v (Value.bool z1)));
 letI z5:=decide (i64.wrap p8 ≥ q1);
 letI q9:=(31,some (SV.v (Value.bool z5)));
 letI p:=Value.int i64 x8;
 letI p0:List Blk:=[Blk.vec true 70 2 l.length (opCells l)];
 letI z0:=SV.ref 0;
 letI p1:=(4,some z0);
 letI y1:=l.length+1;
 letI p2:=l.length+1≤9223372036854775807∧y1 * Tryz.prog.types[70].bytes≤140737488355328;
 letI p3:SV:=.v (.int .i64 q1);
 letI p4:=(11,some (SV.v (Value.bool (decide (a < q1)))));
 letI y:=a+(2:Int);
 letI z3:=i64.wrap q7;
 letI p5:=Value.string (s.extract (i64.wrap y).toNat z3.toNat);
 letI p6:=(14,some (.v (.int .u8 z)));
 letI p7:=decide (i64.wrap q7 > q1);
 letI p9:=(0,some q3);
 letI z4:=Value.string (ByteArray.mk (Array.mk []));
 letI z6:=(5,some q4);
 letI z7:=(17,some SV.ff);
 letI z8:=(11,some SV.tt);
 letI z9:=(3,some (.c (.int .i64 1)));
 letI y0:=(36,some (.v (.int .u8 q)));
 letI y2:=(30,some p3);
 letI y3:=(29,some q3);
 letI y4:=(28,some q2);
 letI y5:=(27,some q4);
 letI y6:=(16,some q0);
 letI y7:=(15,some q0);
 letI y8:=(13,some q4);
 letI y9:=(12,some q3);
 letI x:=(0:Int);
 letI x0:=(10,some p3);
 letI x1:=(2,some z0);
 letI x2:=(6,some q0);
 letI x3:=(9,some q3);
 letI x4:=(8,some q4);
 letI x5:=SV.v (Value.bool p7);
 letI x7:=[p1,p9,(5,some q2)];
 .ite (decide (a < q1)) (.need (x≤a∧a < q1) (.ite z1 (.ite (decide (i64.wrap z > x)) (.need p2 (.need (allOneP [p,z4]) (.leaf (Ex.normal,St.mk x7 [Blk.vec true 70 2 y1 (opCells l++[p,z4])])))) (.leaf (Ex.normal,St.mk x7 p0))) (.ite z5 (.leaf (Ex.ret,St.mk [z9,x1,(32,some z0),(31,some SV.tt),q9,y2,y3,y4,y5,z7,q8,y6,x2,y7,p6,y8,y9,z8,p4,x0,x3,x4,p1,p9,z6] p0)) (.need (x≤i64.wrap p8∧i64.wrap p8 < q1) (.ite z2 (.leaf (Ex.ret,St.mk [(3,some (.c (.int .i64 4))),x1,(41,some z0),(38,some SV.tt),(38,some q6),(40,some q6),(39,some q5),(7,some q5),(37,some q5),y0,(35,some q2),(34,some q4),(33,some q3),(31,some SV.ff),q9,y2,y3,y4,y5,z7,q8,y6,x2,y7,p6,y8,y9,z8,p4,x0,x3,x4,p1,p9,z6] p0)) (.ite p7 (.leaf (Ex.ret,St.mk [z9,x1,(49,some z0),(42,some SV.tt),(42,some x5),(48,some x5),(47,some p3),(46,some q3),(45,some (.v (.int .i64 z3))),(44,some q5),(43,some q4),(38,some SV.ff),(38,some q6),(40,some q6),(39,some q5),(7,some q5),(37,some q5),y0,(35,some q2),(34,some q4),(33,some q3),(31,some SV.ff),q9,y2,y3,y4,y5,z7,q8,y6,x2,y7,p6,y8,y9,z8,p4,x0,x3,x4,p1,p9,z6] p0)) (.need (x≤i64.wrap y∧i64.wrap y≤i64.wrap q7∧i64.wrap q7≤q1) (.need p2 (.need (allOneP [p,p5]) (.leaf (Ex.normal,St.mk [p1,p9,(5,some (.v (.int .i64 z3)))] [Blk.vec true 70 2 y1 (opCells l++[p,p5])]))))))))))) (.leaf (Ex.exit 0,St.mk [p1,p9,z6] p0)):=by kernel_rfl
def Lrd (P:Program) (fn:Func) (s:ByteArray) (lE:List Op) (aE:Int):Nat→St→Option (T (Ex×St)) :=
  addL 0 (fun st=>.need (st.H.length=0) (.need (st.tidy 0 [0,5] [(4,70,2)] []=rd_st s [] (0:Nat)) ((roundM P (onlyS P noS) noL fn.ntmps 0 (loopAt fn 0) 0 [0,5] [(4,70,2)] [] (closeAt [] (rd_st s lE aE))).bind (lastX 0)))) noL
set_option maxRecDepth 100000 in
theorem rd_run (s:ByteArray) (lE:List Op) (aE:Int):runF Tryz.prog (onlyS Tryz.prog noS) (Lrd Tryz.prog Tryz.f134 s lE aE) Tryz.f134 (Tryz.f134.body.getD .skip) [.v (.string s)] [] =
 letI q3:=aE+(1:Int);
 letI q6:=byteAt s (i64.wrap q3);
 letI q:=aE+i64.wrap q6;
 letI q0:List Blk:=[Blk.vec true 70 2 lE.length (opCells lE)];
 letI q1:=lE.length+1≤9223372036854775807∧(lE.length+1) * Tryz.prog.types[70].bytes≤140737488355328;
 letI q2:=(↑s.size:Int);
 letI q9:=byteAt s aE;
 letI q4:=Value.int i64 (i64.wrap q9);
 letI q5:=(SV.tup [SV.ref 0,.c (.int .i64 1)],q0);
 letI q7:=(0:Int);
 letI q8:=aE+(2:Int);
 letI p:=T.stuck 39;
 .need (0=0) (.need (St.mk [(4,some (SV.ref 0)),(0,some (.v (.string s))),(5,some (.v (.int .i64 0)))] [Blk.vec true 70 2 0 []]=rd_st s [] q7) (.ite (decide (aE < q2)) (.need (q7≤aE∧aE < q2) (.ite (decide (i64.wrap q9 < (32:Int))) (.ite (decide (i64.wrap q9 > q7)) (.need q1 (.need (allOneP [q4,Value.string (ByteArray.mk (Array.mk []))]) p)) p) (.ite (decide (i64.wrap q3 ≥ q2)) (.leaf q5) (.need (q7≤i64.wrap q3∧i64.wrap q3 < q2) (.ite (decide (i64.wrap q6 < (2:Int))) (.leaf (SV.tup [SV.ref 0,.c (.int .i64 4)],q0)) (.ite (decide (i64.wrap q > q2)) (.leaf q5) (.need (q7≤i64.wrap q8∧i64.wrap q8≤i64.wrap q∧i64.wrap q≤q2) (.need q1 (.need (allOneP [q4,Value.string (s.extract (i64.wrap q8).toNat (i64.wrap q).toNat)]) p))))))))) (.leaf (SV.tup [SV.ref 0,.c (.int .i64 0)],q0)))):=by kernel_rfl
end Go.Proofs.YthacfgaacleaeaaGreatDoor
namespace Go.Proofs.YthacfgaacleaeaaGreatDoor
open Go.IntKind (i64 u32)
open Go.RowKit Sym Go.ChangeShapes Go.WideShapes Go.ChangeMaps
def fstK (s:ByteArray):Int:=if err1 s 0=0 then kindR s 0 else 0
def fstV (s:ByteArray):ByteArray:=if err1 s 0=0∧¬ kindR s 0 < 32 then s.extract 2 (manyR s 0).toNat else ⟨⟨[]⟩⟩
def fstR (s:ByteArray):ByteArray:=if err1 s 0=0 then s.extract (pos1 s 0) s.size else ⟨⟨[]⟩⟩
theorem opts_first (s:ByteArray) (h:0 < s.size∧s.size≤1000000) (w:World):Calls Tryz.prog 163 #[.string s] w fun e w'=>e = .returned (.tuple #[.agg #[.int .i64 (fstK s),.string (fstV s)],.string (fstR s),.int .i64 (err1 s 0)])∧Below w.heap.size w w':=by
  refine calls_runV (onlyS_ok noS_ok) follows Tryz.func163 (by kernel_rfl) (by kernel_rfl) noL_ok (first_run s) ?_ w
  obtain ⟨h0,h1⟩:=h
  have b0:=byteAt_in s 0
  have b1:=byteAt_in s 1
  have w0:i64.wrap (byteAt s 0)=byteAt s 0:=w64 _ (by omega) (by omega)
  have w1:i64.wrap (byteAt s 1)=byteAt s 1:=w64 _ (by omega) (by omega)
  have k0:kindR s 0=byteAt s 0:=rfl
  have m0:manyR s 0=byteAt s 1:=rfl
  have z0:((0:Nat):Int)+byteAt s 1=byteAt s 1:=by omega
  rw [w0,w1]
  unfold fstK fstV fstR pos1 err1
  rw [k0,m0]
  by_cases hk:byteAt s 0 < 32
  · have hk':byteAt s 0≤31:=by omega
    simp [T.ok,hk,hk']
    omega
  · have hk':¬ byteAt s 0≤31:=by omega
    by_cases h2:s.size≤1
    · have h2':(s.size:Int) < 2:=by omega
      simp [T.ok,hk,hk',h2,h2']
      omega
    · have h2':¬ (s.size:Int) < 2:=by omega
      have h2'':(1:Int) < s.size:=by omega
      by_cases h3:byteAt s 1 < 2
      · simp [T.ok,hk,hk',h2,h2',h2'',h3]
        omega
      · have h3':2≤byteAt s 1:=by omega
        by_cases h4:(s.size:Int) < byteAt s 1
        · have h4':¬ byteAt s 1≤(s.size:Int):=by omega
          simp [T.ok,hk,hk',h2,h2',h2'',h3,h4]
          omega
        · have h4':byteAt s 1≤(s.size:Int):=by omega
          simp [T.ok,hk,hk',h2,h2',h2'',h3,h3',h4,h4']
          omega
def tFirst:List Value→Option (List Prop×Value) | [.string s]=>some ([0 < s.size∧s.size≤1000000],.tuple #[.agg #[.int .i64 (fstK s),.string (fstV s)],.string (fstR s),.int .i64 (err1 s 0)]) | _=>none
theorem rd_cons (s:ByteArray) (l:List Op) (o:Op) (a:Int):rd_st s (l++[o]) a=⟨[(4,some (.ref 0)),(0,some (.v (.string s))),(5,some (.v (.int .i64 a)))],[.vec true 70 2 (l.length+1) (opCells l++[.int .i64 o.kind,.string o.val])]⟩:=by
  unfold rd_st
  rw [opCells_append,List.length_append]
  rfl
set_option maxRecDepth 100000 in
theorem opt_bytes:Tryz.prog.types[70].bytes=24:=by kernel_rfl
set_option maxRecDepth 100000 in
theorem rd_step (s:ByteArray) (hs:s.size≤1000000):∀ i:Nat,i≤endR s→i ≠ endR s→(roundM Tryz.prog (onlyS Tryz.prog noS) noL Tryz.f134.ntmps 0 (loopAt Tryz.f134 0) 0 [0,5] [(4,70,2)] [] (rd_st s (accR s i) (posR s i:Nat))).ok fun r=>r.1 = .normal∧∃ j,j≤endR s∧endR s - j < endR s - i∧r.2=rd_st s (accR s j) (posR s j:Nat):=by
  intro i hi hne
  obtain ⟨p1,p2⟩:=(endR_le s).2 i (by omega)
  have hl:=accR_len s i
  have he:=endR_size s
  have fin:∀ (l:List Op) (a:Int),l=accR s (i+1)→a=(posR s (i+1):Nat)→∃ j,j≤endR s∧endR s - j < endR s - i∧rd_st s l a=rd_st s (accR s j) (posR s j:Nat):=fun l a h1 h2=>⟨i+1,by omega,by omega,by rw [h1,h2]⟩
  simp only [accR,posR] at fin
  generalize accR s i=l at *
  generalize posR s i=a at *
  have b0:=byteAt_in s (a:Nat)
  have b1:=byteAt_in s (a+1:Nat)
  have w0:i64.wrap (byteAt s (a:Nat))=byteAt s (a:Nat):=w64 _ (by omega) (by omega)
  have w1:i64.wrap (byteAt s (a+1:Nat))=byteAt s (a+1:Nat):=w64 _ (by omega) (by omega)
  have wa:i64.wrap ((a:Int)+1)=((a+1:Nat):Int):=by rw [w64 _ (by omega) (by omega)];rfl
  have wb:i64.wrap ((a:Int)+2)=((a+2:Nat):Int):=by rw [w64 _ (by omega) (by omega)];rfl
  have wm:i64.wrap ((a:Int)+byteAt s (a+1:Nat))=(a:Int)+byteAt s (a+1:Nat):=w64 _ (by omega) (by omega)
  have wn:((a:Int)+byteAt s (a+1:Nat)).toNat=a+(byteAt s (a+1:Nat)).toNat:=by omega
  have one:∀ (k:Int) (v:ByteArray),allOneP [Value.int .i64 k,Value.string v]:=fun k v u hu=>by
    simp only [List.mem_cons,List.not_mem_nil,or_false] at hu
    rcases hu with rfl | rfl <;> rfl
  rw [rd_round]
  rw [w0,wa,w1,wb,wm,opt_bytes]
  unfold err1 kindR manyR at p2
  unfold acc1 pos1 kindR manyR at fin
  refine ⟨fun _=>⟨⟨by omega,by omega⟩,fun h=>⟨fun h2=>⟨⟨by omega,by omega⟩,one _ _,rfl,?_⟩,fun h2=>⟨rfl,?_⟩⟩,fun h=>⟨fun h2=>?_,fun h2=>⟨⟨by omega,by have:=of_decide_eq_false h2;omega⟩,fun h3=>?_,fun h3=>⟨fun h4=>?_,fun h4=>⟨?_,⟨by omega,by omega⟩,one _ _,rfl,?_⟩⟩⟩⟩⟩,fun h=>?_⟩
  · have h:=of_decide_eq_true h
    have h2:=of_decide_eq_true h2
    rw [if_pos h,if_pos h,if_pos h2] at fin
    have:=fin _ _ rfl rfl
    rw [rd_cons] at this
    exact this
  · have h:=of_decide_eq_true h
    have h2:=of_decide_eq_false h2
    rw [if_pos h,if_pos h,if_neg h2] at fin
    exact fin _ _ (List.append_nil _).symm rfl
  · have h:=of_decide_eq_false h
    have h2:=of_decide_eq_true h2
    rw [if_neg h,if_pos (by omega)] at p2
    cases p2
  · have h:=of_decide_eq_false h
    have h2:=of_decide_eq_false h2
    have h3:=of_decide_eq_true h3
    rw [if_neg h,if_neg (by omega),if_pos h3] at p2
    cases p2
  · have h:=of_decide_eq_false h
    have h2:=of_decide_eq_false h2
    have h3:=of_decide_eq_false h3
    have h4:=of_decide_eq_true h4
    rw [if_neg h,if_neg (by omega),if_neg h3,if_pos h4] at p2
    cases p2
  · have h2:=of_decide_eq_false h2
    have h3:=of_decide_eq_false h3
    have h4:=of_decide_eq_false h4
    exact ⟨by omega,by omega,by omega⟩
  · have h:=of_decide_eq_false h
    rw [if_neg h,if_neg h] at fin
    have:=fin _ ((a:Int)+byteAt s (a+1:Nat)) rfl (by omega)
    rw [rd_cons] at this
    rw [wn,Int.toNat_natCast]
    exact this
  · have h:=of_decide_eq_false h
    omega
def fRead:List SV→List Blk→Option (T (SV×List Blk))
  | [.v (.string s)],[]=>some (.need (s.size≤1000000) (.leaf (.tup [.ref 0,.v (.int .i64 (errR s))],[.vec true 70 2 (optsOf s).length (opCells (optsOf s))])))
  | _,_=>none
set_option maxRecDepth 100000 in
theorem fRead_ok:EntryOk Tryz.prog 134 fRead:=by
  intro ss H t ht bs B w vs hm hv Qs hq
  unfold fRead at ht
  split at ht
  · rename_i s
    simp only [Option.some.injEq] at ht
    subst ht
    obtain ⟨hs,hq⟩:=hq
    have hpos:=posR_up s (endR s) (Nat.le_refl _)
    have hst:=endR_stop s
    have hl:=accR_len s (endR s)
    have he:=endR_size s
    have key:=inl_ok (onlyS_ok noS_ok) follows Tryz.func134 (by kernel_rfl) (by kernel_rfl) (L:=Lrd Tryz.prog Tryz.f134 s (accR s (endR s)) (posR s (endR s):Nat)) (one_loop (b:=loopAt Tryz.f134 0) (id:=0) (by kernel_rfl) fun st t h=>by
      rw [addL_same h]
      exact loop_cnt (onlyS_ok noS_ok) follows (by kernel_rfl) (noloops (by kernel_rfl)) (fun i=>i≤endR s) (fun i=>rd_st s (accR s i) (posR s i:Nat)) (fun i=>endR s - i) 0 [0,5] [(4,70,2)] [] (endR s) [] (rd_step s hs) (Nat.zero_le _))
      [.v (.string s)] [] _ rfl bs B w vs hm hv (fun r=>r=(.tup [.ref 0,.c (.int .i64 (errR s))],[.vec true 70 2 (optsOf s).length (opCells (optsOf s))])) (by
        obtain ⟨q,hq⟩:∃ q,q=errR s:=⟨_,rfl⟩
        rw [← hq]
        have fin:∀ k:Int,k=q→((SV.tup [.ref 0,.c (.int .i64 k)],[Blk.vec true 70 2 (accR s (endR s)).length (opCells (accR s (endR s)))]):SV×List Blk)=(.tup [.ref 0,.c (.int .i64 q)],[.vec true 70 2 (optsOf s).length (opCells (optsOf s))]):=fun k hk=>by rw [hk];rfl
        rw [rd_run]
        unfold errR at hq
        generalize accR s (endR s)=l at *
        generalize posR s (endR s)=a at *
        have b0:=byteAt_in s (a:Nat)
        have b1:=byteAt_in s (a+1:Nat)
        have w0:i64.wrap (byteAt s (a:Nat))=byteAt s (a:Nat):=w64 _ (by omega) (by omega)
        have w1:i64.wrap (byteAt s (a+1:Nat))=byteAt s (a+1:Nat):=w64 _ (by omega) (by omega)
        have wa:i64.wrap ((a:Int)+1)=((a+1:Nat):Int):=by rw [w64 _ (by omega) (by omega)];rfl
        have wm:i64.wrap ((a:Int)+byteAt s (a+1:Nat))=(a:Int)+byteAt s (a+1:Nat):=w64 _ (by omega) (by omega)
        rw [w0,wa,w1,wm]
        unfold err1 kindR manyR at hst hq
        refine ⟨rfl,rfl,fun h=>⟨⟨by omega,by have:=of_decide_eq_true h;omega⟩,fun h1=>?_,fun h1=>⟨fun h2=>?_,fun h2=>⟨⟨by omega,by have:=of_decide_eq_false h2;omega⟩,fun h3=>?_,fun h3=>⟨fun h4=>?_,fun h4=>?_⟩⟩⟩⟩,fun h=>?_⟩
        · exfalso
          have h:=of_decide_eq_true h
          have h1:=of_decide_eq_true h1
          rw [if_pos h1] at hst
          rcases hst with x | x
          · omega
          · exact x rfl
        · have h:=of_decide_eq_true h
          have h1:=of_decide_eq_false h1
          have h2:=of_decide_eq_true h2
          exact fin _ (by rw [hq,if_neg (by omega),if_neg h1,if_pos (by omega)])
        · have h:=of_decide_eq_true h
          have h1:=of_decide_eq_false h1
          have h2:=of_decide_eq_false h2
          have h3:=of_decide_eq_true h3
          exact fin _ (by rw [hq,if_neg (by omega),if_neg h1,if_neg (by omega),if_pos h3])
        · have h:=of_decide_eq_true h
          have h1:=of_decide_eq_false h1
          have h2:=of_decide_eq_false h2
          have h3:=of_decide_eq_false h3
          have h4:=of_decide_eq_true h4
          exact fin _ (by rw [hq,if_neg (by omega),if_neg h1,if_neg (by omega),if_neg h3,if_pos h4])
        · exfalso
          have h:=of_decide_eq_true h
          have h1:=of_decide_eq_false h1
          have h2:=of_decide_eq_false h2
          have h3:=of_decide_eq_false h3
          have h4:=of_decide_eq_false h4
          rw [if_neg h1,if_neg (by omega),if_neg h3,if_neg h4] at hst
          rcases hst with x | x
          · omega
          · exact x rfl
        · have h:=of_decide_eq_false h
          exact fin _ (by rw [hq,if_pos (by omega)]))
    refine key.mono ?_
    rintro e w' ⟨s1,H1,B1,x,hr,hp,he',hx,hm'⟩
    simp only [Prod.mk.injEq] at hr
    obtain ⟨rfl,rfl⟩:=hr
    exact ⟨_,_,B1,x,hq,hp,he',hx,hm'⟩
  · cases ht
end Go.Proofs.YthacfgaacleaeaaGreatDoor
namespace Go.Proofs.YthacfgaacleaeaaGreatDoor
open Go.IntKind (i64 u32)
open Go.RowKit Sym Go.ChangeShapes Go.WideShapes Go.ChangeMaps
def SW:Tab:=addS 163 tFirst noS
theorem SW_ok:TabOk Tryz.prog SW:=addS_ok noS_ok (by kernel_rfl) (by (intro xs p v h hp w;unfold tFirst at h;(split at h) <;> first | (cases h;done) | (simp only [Option.some.injEq,Prod.mk.injEq] at h;obtain ⟨rfl,rfl⟩:=h;exact opts_first _ (hp _ (List.mem_cons_self ..)) w)))
def FW (P:Program) (fG:Func):LTab:=addT 129 (inl P (onlyS P noS) noL fG) noF
theorem FW_ok:LOk Tryz.prog (FW Tryz.prog Tryz.f129):=addT_ok noF_ok (by kernel_rfl) (inl_ok (onlyS_ok noS_ok) follows Tryz.func129 (by kernel_rfl) (by kernel_rfl) (noloops (by kernel_rfl)))
abbrev CW (P:Program) (fG:Func):Cfg:=both P SW (FW P fG) [129]
theorem CW_ok:CfgOk Tryz.prog (CW Tryz.prog Tryz.f129):=both_ok SW_ok FW_ok
def wk_st (u:ByteArray) (l:List Op):St:=⟨[(0,some (.v (.string u))),(1,some (.clo (.func 129) [] [.ptr 0 0]))],[.own [.ref 1],.vec true 70 2 l.length (opCells l)]⟩
abbrev tauW:St→St:=St.ord 1 [0,1] [(.cell 0 0 [],70,2)] []
set_option maxRecDepth 100000 in
theorem wk_round (u:ByteArray) (l:List Op):roundG Tryz.prog (CW Tryz.prog Tryz.f129) noL Tryz.f128.ntmps 0 (loopAt Tryz.f128 0) tauW (wk_st u l) =
 letI q:=[Value.int i64 (fstK u),Value.string (fstV u)];
 letI q0:=(1,some (SV.clo (Fn.func 129) [] [.ptr 0 0]));
 letI q1:=SV.v (Value.tuple (Array.mk [Value.agg (Array.mk q),Value.string (fstR u),Value.int i64 (err1 u 0)]));
 letI q2:SV:=.v (.int .i64 (err1 u 0));
 letI q3:=Blk.vec true 70 2 l.length (opCells l);
 letI q4:SV:=.v (.string (fstR u));
 letI q5:SV:=.v (.string u);
 letI q6:Blk:=.own [SV.ref 1];
 letI q7:=u=ByteArray.mk (Array.mk []);
 letI q8:=err1 u 0=(0:Int);
 .ite (!decide q7) (.need (0 < u.size∧u.size≤1000000) (.ite (!decide q8) (.leaf (Ex.ret,St.mk [(4,some q2),(18,some q2),(17,some SV.tt),(17,some (SV.v (Value.bool !decide q8))),(16,some q2),(7,some q2),(6,some q4),(5,some (.ptr 2 0)),(15,some q2),(14,some q4),(13,some (SV.v (Value.agg (Array.mk q)))),(10,some q1),(12,some q1),(11,some q5),(9,some SV.tt),(9,some (SV.v (Value.bool !decide q7))),(8,some q5),(0,some q5),q0] [q6,q3,.own [.v (.int .i64 (fstK u)),.v (.string (fstV u))]])) (.ite (!decide (fstK u=(0:Int))) (.need (l.length+1≤9223372036854775807∧(l.length+1) * Tryz.prog.types[70].bytes≤140737488355328) (.need (allOneP q) (.leaf (Ex.normal,St.mk [(0,some q4),q0] [q6,Blk.vec true 70 2 (l.length+1) (opCells l++q)])))) (.leaf (Ex.normal,St.mk [(0,some q4),q0] [q6,q3]))))) (.leaf (Ex.exit 0,St.mk [(0,some q5),q0] [q6,q3])):=by kernel_rfl
def Lwk (P:Program) (C:Cfg) (fn:Func) (s uE:ByteArray) (lE:List Op):Nat→St→Option (T (Ex×St)) :=
  addL 0 (fun st=>.need (st.H.length=1) (.need (tauW st=wk_st s []) ((roundG P C noL fn.ntmps 0 (loopAt fn 0) tauW (closeAt [] (wk_st uE lE))).bind (lastX 0)))) noL
def FGet (P:Program) (fG fW:Func) (s uE:ByteArray) (lE:List Op):LTab:=addT 128 (inl P (CW P fG) (Lwk P (CW P fG) fW s uE lE) fW) FOpt2
abbrev CGet (P:Program) (fG fW:Func) (s uE:ByteArray) (lE:List Op):Cfg:=both P noS (FGet P fG fW s uE lE) (128 :: fsOpt)
set_option maxRecDepth 100000 in
theorem get_run (s uE:ByteArray) (lE:List Op):runF Tryz.prog (CGet Tryz.prog Tryz.f129 Tryz.f128 s uE lE) noL Tryz.f79 (Tryz.f79.body.getD .skip) [.v (.string s)] [] =
 letI q5:Blk:=.own [SV.ref 1];
 letI q0:=opCells lE;
 letI q2:=Blk.vec true 70 2 lE.length q0;
 letI q:List Blk:=[q5,q2,.own [.v (.int .i64 (fstK uE)),.v (.string (fstV uE))]];
 letI q1:=SV.tup [SV.ref 1,.c (.int .i64 0)];
 letI q6:=(0:Int);
 letI q3:=err1 uE 0=q6;
 letI q4:=Value.slice none 0 0;
 .need (1=1) (.need (St.mk [(0,some (.v (.string s))),(1,some (SV.clo (Fn.func 129) [] [.ptr 0 0]))] [q5,Blk.vec true 70 2 0 []]=wk_st s []) (.ite (!decide (uE=ByteArray.mk (Array.mk []))) (.need (0 < uE.size∧uE.size≤1000000) (.ite (!decide q3) (.ite (decide q3) (.need (OpP lE.length fun i j=>cellAt q0 (i * 2+j)) (.ite (!decide (chkO lE.length (opF fun i j=>cellAt q0 (i * 2+j))=q6)) (.leaf (SV.v (Value.tuple (Array.mk [q4,Value.int i64 (chkO lE.length (opF fun i j=>cellAt q0 (i * 2+j)))])),q)) (.leaf (q1,q)))) (.ite (!decide q3) (.leaf (SV.v (Value.tuple (Array.mk [q4,Value.int i64 (err1 uE 0)])),q)) (.leaf (q1,q)))) (.ite (!decide (fstK uE=q6)) (.need (lE.length+1≤9223372036854775807∧(lE.length+1) * Tryz.prog.types[70].bytes≤140737488355328) (.need (allOneP [Value.int i64 (fstK uE),Value.string (fstV uE)]) (T.stuck 39))) (T.stuck 39)))) (.need (OpP lE.length fun i j=>cellAt q0 (i * 2+j)) (.ite (!decide (chkO lE.length (opF fun i j=>cellAt q0 (i * 2+j))=q6)) (.leaf (SV.v (Value.tuple (Array.mk [q4,Value.int i64 (chkO lE.length (opF fun i j=>cellAt q0 (i * 2+j)))])),[q5,q2])) (.leaf (q1,[q5,q2])))))):=by kernel_rfl
def FGetR:LTab:=addF 134 fRead FOpt2
theorem FGetR_ok:LOk Tryz.prog FGetR:=addF_ok FOpt2_ok (by kernel_rfl) fRead_ok
set_option maxRecDepth 100000 in
theorem getR_run (s:ByteArray):runF Tryz.prog (both Tryz.prog noS FGetR (134 :: fsOpt)) noL Tryz.f86 (Tryz.f86.body.getD .skip) [.v (.string s)] [] =
 letI q0:=optsOf s;
 letI q2:=opCells q0;
 letI q:List Blk:=[Blk.vec true 70 2 q0.length q2];
 letI q1:=(SV.tup [SV.ref 0,.c (.int .i64 0)],q);
 letI q3:=errR s=(0:Int);
 .need (s.size≤1000000) (.ite (decide q3) (.need (OpP q0.length fun i j=>cellAt q2 (i * 2+j)) (.ite (!decide (chkO q0.length (opF fun i j=>cellAt q2 (i * 2+j))=(0:Int))) (.leaf (SV.v (Value.tuple (Array.mk [Value.slice none 0 0,Value.int i64 (chkO q0.length (opF fun i j=>cellAt q2 (i * 2+j)))])),q)) (.leaf q1))) (.ite (!decide q3) (.leaf (SV.v (Value.tuple (Array.mk [Value.slice none 0 0,Value.int i64 (errR s)])),q)) (.leaf q1))):=by kernel_rfl
end Go.Proofs.YthacfgaacleaeaaGreatDoor
namespace Go.Proofs.YthacfgaacleaeaaGreatDoor
open Go.IntKind (i64 u32)
open Go.RowKit Sym Go.ChangeShapes Go.WideShapes Go.ChangeMaps
theorem byteAt_suf (s:ByteArray) (p j:Nat) (hp:p≤s.size):byteAt (s.extract p s.size) (j:Nat)=byteAt s (p+j:Nat):=by
  have hs:s.data.size=s.size:=rfl
  unfold byteAt
  simp only [Int.toNat_natCast,List.getD_eq_getElem?_getD,ByteArray.data_extract,Array.toList_extract,List.extract_eq_take_drop,List.getElem?_take,List.getElem?_drop]
  by_cases h:j < s.size - p
  · rw [if_pos h]
  · rw [if_neg h,List.getElem?_eq_none (by simp;omega)]
theorem ext_suf (s:ByteArray) (p a b:Nat) (h:p+b≤s.size):(s.extract p s.size).extract a b=s.extract (p+a) (p+b):=by
  have hs:s.data.size=s.size:=rfl
  apply ByteArray.ext
  apply Array.ext'
  apply List.ext_getElem?
  intro i
  simp only [ByteArray.data_extract,Array.toList_extract,List.extract_eq_take_drop,List.getElem?_take,List.getElem?_drop]
  by_cases hi:i < b - a
  · rw [if_pos hi,if_pos (by omega),if_pos (by omega),Nat.add_assoc]
  · rw [if_neg hi,if_neg (by omega)]
theorem size_suf (s:ByteArray) (p:Nat):(s.extract p s.size).size=s.size - p:=by rw [ByteArray.size_extract,Nat.min_self]
theorem kind_suf (s:ByteArray) (p:Nat) (hp:p≤s.size):kindR (s.extract p s.size) 0=kindR s p:=byteAt_suf s p 0 hp
theorem many_suf (s:ByteArray) (p:Nat) (hp:p≤s.size):manyR (s.extract p s.size) 0=manyR s p:=byteAt_suf s p 1 hp
theorem err_suf (s:ByteArray) (p:Nat) (hp:p≤s.size):err1 (s.extract p s.size) 0=err1 s p:=by
  unfold err1
  rw [kind_suf s p hp,many_suf s p hp,size_suf]
  have e1:s.size - p≤0+1 ↔ s.size≤p+1:=by omega
  have e2:((s.size - p:Nat):Int) < ((0:Nat):Int)+manyR s p ↔ (s.size:Int) < p+manyR s p:=by omega
  simp only [e1,e2]
theorem fst_suf (s:ByteArray) (p:Nat) (hp:p < s.size) (he:err1 s p=0) :
    fstR (s.extract p s.size)=s.extract (pos1 s p) s.size∧(if fstK (s.extract p s.size)=0 then [] else [⟨fstK (s.extract p s.size),fstV (s.extract p s.size)⟩])=acc1 s p:=by
  have hp':p≤s.size:=by omega
  obtain ⟨u1,u2⟩:=pos1_up s p hp he
  have hk0:=byteAt_in s (p:Nat)
  have hm0:=byteAt_in s (p+1:Nat)
  have hm:kindR s p < 32 ∨ p+(manyR s p).toNat≤s.size:=by
    by_cases h:kindR s p < 32
    · exact .inl h
    · unfold pos1 at u2;rw [if_neg h] at u2;exact .inr u2
  have hq:pos1 (s.extract p s.size) 0+p=pos1 s p:=by
    unfold pos1
    rw [kind_suf s p hp',many_suf s p hp']
    split <;> omega
  have eK:fstK (s.extract p s.size)=kindR s p:=by unfold fstK;rw [err_suf s p hp',he,if_pos rfl,kind_suf s p hp']
  constructor
  · have hz:=size_suf s p
    unfold fstR
    rw [err_suf s p hp',he,if_pos rfl,hz,ext_suf s p _ _ (by omega)]
    congr 1 <;> omega
  · unfold acc1
    by_cases h:kindR s p < 32
    · have eV:fstV (s.extract p s.size)=⟨⟨[]⟩⟩:=by
        unfold fstV
        rw [err_suf s p hp',he,kind_suf s p hp',many_suf s p hp']
        exact if_neg (fun x=>x.2 h)
      rw [eK,eV,if_pos h]
      by_cases h0:kindR s p=0
      · rw [if_pos h0,if_neg (by omega)]
      · have h1:kindR s p > 0:=by unfold kindR at *;omega
        rw [if_neg h0,if_pos h1]
    · have eV:fstV (s.extract p s.size)=s.extract (p+2) (p+(manyR s p).toNat):=by
        unfold fstV
        rw [err_suf s p hp',he,kind_suf s p hp',many_suf s p hp']
        exact (if_pos ⟨rfl,h⟩).trans (ext_suf s p _ _ (by rcases hm with x | x;exact absurd x h;exact x))
      rw [eK,eV,if_neg h,if_neg (by omega)]
def sufR (s:ByteArray) (i:Nat):ByteArray:=s.extract (posR s i) s.size
theorem sufR_zero (s:ByteArray):sufR s 0=s:=by
  unfold sufR posR
  exact ByteArray.extract_zero_size
theorem sufR_empty {s:ByteArray} {i:Nat} (h:i≤endR s):sufR s i=⟨⟨[]⟩⟩ ↔ s.size≤posR s i:=by
  have:=(posR_up s i h).2
  have hz:=size_suf s (posR s i)
  unfold sufR
  constructor
  · intro e
    rw [e] at hz
    have:(ByteArray.mk (Array.mk [])).size=0:=rfl
    omega
  · intro e
    have:(s.extract (posR s i) s.size).size=0:=by omega
    exact ByteArray.size_eq_zero_iff.1 this
theorem wk_cons (u:ByteArray) (l:List Op) (o:Op):wk_st u (l++[o])=⟨[(0,some (.v (.string u))),(1,some (.clo (.func 129) [] [.ptr 0 0]))],[.own [.ref 1],.vec true 70 2 (l.length+1) (opCells l++[.int .i64 o.kind,.string o.val])]⟩:=by
  unfold wk_st
  rw [opCells_append,List.length_append]
  rfl
set_option maxRecDepth 100000 in
theorem wk_step (s:ByteArray) (hs:s.size≤1000000):∀ i:Nat,i≤endR s→i ≠ endR s→(roundG Tryz.prog (CW Tryz.prog Tryz.f129) noL Tryz.f128.ntmps 0 (loopAt Tryz.f128 0) tauW (wk_st (sufR s i) (accR s i))).ok fun r=>r.1 = .normal∧∃ j,j≤endR s∧endR s - j < endR s - i∧r.2=wk_st (sufR s j) (accR s j):=by
  intro i hi hne
  obtain ⟨p1,p2⟩:=(endR_le s).2 i (by omega)
  have hl:=accR_len s i
  have hes:=endR_size s
  have hne0:¬ sufR s i=⟨⟨[]⟩⟩:=fun e=>by have:=(sufR_empty hi).1 e;omega
  have hz:(sufR s i).size=s.size - posR s i:=size_suf s _
  have he:err1 (sufR s i) 0=0:=(err_suf s (posR s i) (by omega)).trans p2
  obtain ⟨f1,f2⟩:=fst_suf s (posR s i) p1 p2
  have f1:fstR (sufR s i)=sufR s (i+1):=f1
  have f2:(if fstK (sufR s i)=0 then [] else [⟨fstK (sufR s i),fstV (sufR s i)⟩])=acc1 s (posR s i):=f2
  have fin:∀ u l,u=sufR s (i+1)→l=accR s (i+1)→∃ j,j≤endR s∧endR s - j < endR s - i∧wk_st u l=wk_st (sufR s j) (accR s j):=fun u l h1 h2=>⟨i+1,by omega,by omega,by rw [h1,h2]⟩
  simp only [accR] at fin
  have one:∀ (k:Int) (v:ByteArray),allOneP [Value.int .i64 k,Value.string v]:=fun k v u hu=>by
    simp only [List.mem_cons,List.not_mem_nil,or_false] at hu
    rcases hu with rfl | rfl <;> rfl
  rw [wk_round]
  generalize accR s i=l at *
  generalize sufR s i=u at *
  rw [f1,opt_bytes]
  refine ⟨fun _=>⟨⟨by omega,by omega⟩,fun h=>?_,fun _=>⟨fun h=>⟨⟨by omega,by omega⟩,one _ _,rfl,?_⟩,fun h=>⟨rfl,?_⟩⟩⟩,fun h=>?_⟩
  · rw [he] at h;cases h
  · have h:¬ fstK u=0:=by
      intro e
      rw [e] at h
      cases h
    rw [if_neg h] at f2
    have:=fin _ _ rfl (by rw [← f2])
    rw [wk_cons] at this
    exact this
  · have h:fstK u=0:=by
      by_cases e:fstK u=0
      · exact e
      · rw [decide_eq_false e] at h;cases h
    rw [if_pos h] at f2
    exact fin _ _ rfl (by rw [← f2,List.append_nil])
  · rw [decide_eq_false hne0] at h;cases h
end Go.Proofs.YthacfgaacleaeaaGreatDoor
namespace Go.Proofs.YthacfgaacleaeaaGreatDoor
open Go.IntKind (i64 u32)
open Go.RowKit Sym Go.ChangeShapes Go.WideShapes Go.ChangeMaps
def getE (s:ByteArray):Int:=if errR s=0 then chkO (optsOf s).length (opN (optsOf s)) else errR s
theorem optsOf_P (s:ByteArray) (hs:s.size≤1000):OpP (optsOf s).length (fun i j=>cellAt (opCells (optsOf s)) (i * 2+j)):=by
  obtain ⟨h1,h2⟩:=opCells_row (optsOf s)
  have hl:=accR_len s (endR s)
  have he:=endR_size s
  have hv:=accR_val s (endR s)
  refine ⟨h1,by unfold optsOf;omega,fun i hi=>?_⟩
  rw [h2 i hi]
  unfold opN
  rw [List.getD_eq_getElem?_getD,List.getElem?_eq_getElem hi]
  have:=hv _ (List.getElem_mem hi)
  show (optsOf s)[i].val.size≤_
  omega
theorem optsOf_chk (s:ByteArray):chkO (optsOf s).length (opF fun i j=>cellAt (opCells (optsOf s)) (i * 2+j))=chkO (optsOf s).length (opN (optsOf s)):=chkO_congr (opCells_row (optsOf s)).2
def invW (s:ByteArray) (i:Nat):St:=wk_st (sufR s i) (accR s i)
theorem invW_zero (s:ByteArray):invW s 0=wk_st s []:=by unfold invW;rw [sufR_zero];rfl
set_option maxRecDepth 100000 in
theorem FGet_ok (s:ByteArray) (hs:s.size≤1000000):LOk Tryz.prog (FGet Tryz.prog Tryz.f129 Tryz.f128 s (sufR s (endR s)) (accR s (endR s))) :=
  addT_ok FOpt2_ok (by kernel_rfl) (inl_ok CW_ok follows Tryz.func128 (by kernel_rfl) (by kernel_rfl) (one_loop (b:=loopAt Tryz.f128 0) (id:=0) (by kernel_rfl) fun st t h=>by
    rw [addL_same h]
    have k:=fun st=>loopG_cnt (N:=Tryz.f128.ntmps) (st:=st) (id:=0) (body:=loopAt Tryz.f128 0) CW_ok follows (by kernel_rfl) (noloops (by kernel_rfl)) (fun i=>i≤endR s) (invW s) (fun i=>endR s - i) 1 (τ:=tauW) (ord_ok [0,1] [(.cell 0 0 [],70,2)] []) (endR s) [] (wk_step s hs) (i0:=0) (Nat.zero_le _)
    rw [invW_zero] at k
    exact k _))
def fGet:List SV→List Blk→Option (T (SV×List Blk))
  | [.v (.string s)],[]=>some (.need (s.size≤1000) (.ite (decide (getE s=0)) (.leaf (.tup [.ref 1,.v (.int .i64 0)],[.own [.ref 1],.vec true 70 2 (optsOf s).length (opCells (optsOf s))])) (.leaf (.v (.tuple #[.slice none 0 0,.int .i64 (getE s)]),[]))))
  | _,_=>none
def fGetR:List SV→List Blk→Option (T (SV×List Blk))
  | [.v (.string s)],[]=>some (.need (s.size≤1000) (.ite (decide (getE s=0)) (.leaf (.tup [.ref 0,.v (.int .i64 0)],[.vec true 70 2 (optsOf s).length (opCells (optsOf s))])) (.leaf (.v (.tuple #[.slice none 0 0,.int .i64 (getE s)]),[]))))
  | _,_=>none
set_option maxRecDepth 100000 in
theorem fGet_ok:EntryOk Tryz.prog 79 fGet:=by
  intro ss H t ht bs B w vs hm hv Qs hq
  unfold fGet at ht
  split at ht
  · rename_i s
    simp only [Option.some.injEq] at ht
    subst ht
    obtain ⟨hs,hq1,hq2⟩:=hq
    have hp:=optsOf_P s hs
    have hc:=optsOf_chk s
    have h1:=sufR_empty (s:=s) (Nat.le_refl (endR s))
    have hz:(sufR s (endR s)).size=s.size - posR s (endR s):=size_suf s _
    have hpo:=(posR_up s (endR s) (Nat.le_refl _)).2
    have h2:err1 (sufR s (endR s)) 0=err1 s (posR s (endR s)):=err_suf s _ hpo
    have h3:=endR_stop s
    have key := inl_ok (both_ok (fs:=128 :: fsOpt) noS_ok (FGet_ok s (by omega))) follows Tryz.func79 (by kernel_rfl) (by kernel_rfl) (noloops (by kernel_rfl)) [.v (.string s)] [] _ rfl bs B w vs hm hv
      (fun r => (getE s=0∧r.1 = .tup [.ref 1,.c (.int .i64 0)]∧∃ H',r.2 = .own [.ref 1] :: .vec true 70 2 (optsOf s).length (opCells (optsOf s)) :: H') ∨ (¬ getE s=0∧r.1 = .v (.tuple #[.slice none 0 0,.int .i64 (getE s)]))) (by
        rw [show runF Tryz.prog (both Tryz.prog noS (FGet Tryz.prog Tryz.f129 Tryz.f128 s (sufR s (endR s)) (accR s (endR s))) (128 :: fsOpt)) noL Tryz.f79 (Tryz.f79.body.getD .skip) [.v (.string s)] []=_ from get_run s (sufR s (endR s)) (accR s (endR s))]
        rw [show accR s (endR s)=optsOf s from rfl,hc]
        generalize sufR s (endR s)=u at *
        unfold getE errR
        generalize optsOf s=l at *
        rw [← h2] at h3 ⊢
        by_cases hA:s.size≤posR s (endR s)
        · have hu:=h1.2 hA
          rw [if_pos hA,if_pos rfl]
          refine ⟨rfl,rfl,fun h=>?_,fun _=>⟨hp,fun h=>.inr ⟨?_,rfl⟩,fun h=>.inl ⟨?_,rfl,_,rfl⟩⟩⟩
          · rw [decide_eq_true hu] at h;cases h
          · intro e;rw [decide_eq_true e] at h;cases h
          · by_cases e:chkO l.length (opN l)=0
            · exact e
            · rw [decide_eq_false e] at h;cases h
        · have hu:¬ u=⟨⟨[]⟩⟩:=fun e=>hA (h1.1 e)
          have he:¬ err1 u 0=0:=by rcases h3 with x | x;exact absurd x hA;exact x
          rw [if_neg hA,if_neg he]
          refine ⟨rfl,rfl,fun _=>⟨⟨by omega,by omega⟩,fun _=>⟨fun h=>absurd (of_decide_eq_true h) he,fun _=>⟨fun _=>.inr ⟨he,rfl⟩,fun h=>?_⟩⟩,fun h=>?_⟩,fun h=>?_⟩
          · rw [decide_eq_false he] at h;cases h
          · rw [decide_eq_false he] at h;cases h
          · rw [decide_eq_false hu] at h;cases h)
    refine key.mono ?_
    rintro e w' ⟨s1,H1,B1,x,hr,hpr,he',hx,hm'⟩
    obtain rfl:B=[]:=List.length_eq_zero_iff.1 hm.sat.len
    rcases hr with ⟨h0,hr,H',hr2⟩ | ⟨h0,hr⟩
    · simp only at hr hr2
      subst hr hr2
      have hl:(B1.take 2).length=2:=by
        have:=hm'.sat.len
        simp only [List.length_cons] at this
        rw [List.length_take];omega
      have hm2:=only_mem hm' (List.take_prefix 2 B1)
      rw [hl] at hm2
      refine ⟨_,_,B1.take 2,x,hq1 (decide_eq_true h0),List.nil_prefix,he',?_,hm2⟩
      rw [← hx]
      exact SV.under_to (List.take_prefix 2 B1) (by rw [hl];rfl)
    · simp only at hr
      subst hr
      have hm2:=only_mem hm' List.nil_prefix
      exact ⟨_,_,[],x,hq2 (decide_eq_false h0),List.prefix_refl _,he',hx,hm2⟩
  · cases ht
set_option maxRecDepth 100000 in
theorem fGetR_ok:EntryOk Tryz.prog 86 fGetR:=by
  intro ss H t ht bs B w vs hm hv Qs hq
  unfold fGetR at ht
  split at ht
  · rename_i s
    simp only [Option.some.injEq] at ht
    subst ht
    obtain ⟨hs,hq1,hq2⟩:=hq
    have hp:=optsOf_P s hs
    have hc:=optsOf_chk s
    have key := inl_ok (both_ok (fs:=134 :: fsOpt) noS_ok FGetR_ok) follows Tryz.func86 (by kernel_rfl) (by kernel_rfl) (noloops (by kernel_rfl)) [.v (.string s)] [] _ rfl bs B w vs hm hv
      (fun r => (getE s=0∧r.1 = .tup [.ref 0,.c (.int .i64 0)]∧r.2=[.vec true 70 2 (optsOf s).length (opCells (optsOf s))]) ∨ (¬ getE s=0∧r.1 = .v (.tuple #[.slice none 0 0,.int .i64 (getE s)]))) (by
        rw [getR_run,hc]
        unfold getE
        generalize optsOf s=l at *
        refine ⟨by omega,fun h=>?_,fun h=>⟨fun _=>.inr ?_,fun h'=>?_⟩⟩
        · rw [if_pos (of_decide_eq_true h)]
          refine ⟨hp,fun h=>.inr ⟨?_,rfl⟩,fun h=>.inl ⟨?_,rfl,rfl⟩⟩
          · intro e;rw [decide_eq_true e] at h;cases h
          · by_cases e:chkO l.length (opN l)=0
            · exact e
            · rw [decide_eq_false e] at h;cases h
        · have he:=of_decide_eq_false h
          rw [if_neg he]
          exact ⟨he,rfl⟩
        · rw [h] at h';cases h')
    refine key.mono ?_
    rintro e w' ⟨s1,H1,B1,x,hr,hpr,he',hx,hm'⟩
    obtain rfl:B=[]:=List.length_eq_zero_iff.1 hm.sat.len
    rcases hr with ⟨h0,hr,hr2⟩ | ⟨h0,hr⟩
    · simp only at hr hr2
      subst hr hr2
      exact ⟨_,_,B1,x,hq1 (decide_eq_true h0),List.nil_prefix,he',hx,hm'⟩
    · simp only at hr
      subst hr
      have hm2:=only_mem hm' List.nil_prefix
      exact ⟨_,_,[],x,hq2 (decide_eq_false h0),List.prefix_refl _,he',hx,hm2⟩
  · cases ht
end Go.Proofs.YthacfgaacleaeaaGreatDoor
namespace Go.Proofs.YthacfgaacleaeaaGreatDoor
open Go.IntKind (i64 u32)
open Go.RowKit Sym Go.ChangeShapes Go.WideShapes Go.ChangeMaps Inet
def psF (f:Nat→Nat→Value) (i:Nat):ByteArray:=strV (f i 0)
def StrP (m:Nat) (f:Nat→Nat→Value):Prop:=(∀ i,i < m→f i 0 = .string (psF f i))∧FewS m (psF f)
def tPseu:List Value→Option (List Prop×Value) | [.int .i64 f,.int .i64 t,.int .i64 z]=>some ([],.string (pseuB f t z)) | _=>none
def SPk1:Tab:=addS 115 tPseu <| addS 168 tPseu SPk0
theorem SPk1_ok:TabOk Tryz.prog SPk1:=by
  refine addS_ok (addS_ok SPk0_ok (by kernel_rfl) ?_) (by kernel_rfl) ?_
  · (intro xs p v h hp w;unfold tPseu at h;(split at h) <;> first | (cases h;done) | (simp only [Option.some.injEq,Prod.mk.injEq] at h;obtain ⟨rfl,rfl⟩:=h;exact ref04_Pseudo _ _ _ w))
  · (intro xs p v h hp w;unfold tPseu at h;(split at h) <;> first | (cases h;done) | (simp only [Option.some.injEq,Prod.mk.injEq] at h;obtain ⟨rfl,rfl⟩:=h;exact inet_Pseudo _ _ _ w))
theorem str_row {w:World} {v:Value} {n:Nat} {f:Nat→Nat→Value} (h:∀ B,BlkSat B w v (.row n 1 f)) (ho:∀ i,i < n→f i 0 = .string (psF f i)):∀ B,BlkSat B w v (.row n 1 fun i _=>.string (psF f i)):=fun B=>row_congr (h B) fun i j hi hj=>by
  obtain rfl:j=0:=by omega
  exact ho i hi
def FSum:LTab:=addR 114 (rd1 1 StrP fun m f=>.int .i64 (sumR m (psF f))) <| addR 167 (rd1 1 StrP fun m f=>.int .i64 (sumR m (psF f))) noF
theorem FSum_ok:LOk Tryz.prog FSum:=addR_ok (addR_ok noF_ok (by kernel_rfl) (rd1_ok fun n f v w hv hp=>ref04_Sum n (psF f) hp.2 v w (str_row hv hp.1)))
  (by kernel_rfl) (rd1_ok fun n f v w hv hp=>inet_Sum n (psF f) hp.2 v w (str_row hv hp.1))
abbrev CPs (P:Program):Cfg:=both P SPk1 FSum [114,167]
theorem CPs_ok:CfgOk Tryz.prog (CPs Tryz.prog):=both_ok SPk1_ok FSum_ok
set_option maxRecDepth 100000 in
theorem psum_run (a d:ByteArray) (c f t:Int):runO Tryz.prog (CPs Tryz.prog) noL Tryz.f62 [.v (.string a),.v (.string d),.v (.int .i64 c),.v (.agg #[.int .i64 f,.int .i64 t])] [] =
 letI q:=Value.string (pseuB f t (i64.wrap ((↑a.size:Int)+(↑d.size:Int))));
 letI q0:=Value.string (ByteArray.mk #[]);
 letI q1:=Value.bool (covOk d c);
 letI q2:=Value.string (covB a d c);
 .need (a.size≤1000000∧d.size≤1000000) (.need (StrP 2 fun i j=>cellAt (Array.foldl (fun cs x=>match x with | (c,j)=>cs.setIfInBounds (1+j) c) (Array.foldl (fun cs x=>match x with | (c,j)=>cs.setIfInBounds (0+j) c) (Array.map (fun x=>q0.cells[x % 1]!) (Array.range 2)) q.cells.zipIdx) #[q2,q1][0].cells.zipIdx).toList (i * 1+j)) (.leaf (Value.tuple (Array.mk [Value.int i64 (sumR 2 (psF fun i j=>cellAt (Array.foldl (fun cs x=>match x with | (c,j)=>cs.setIfInBounds ((fun x=>x.fst) (1,Operand.tmp 29) * Tryz.prog.types[9].size+j) c) (Array.foldl (fun cs x=>match x with | (c,j)=>cs.setIfInBounds ((fun x=>x.fst) (0,Operand.tmp 28) * Tryz.prog.types[9].size+j) c) (Array.map (fun x=>q0.cells[x % q0.cells.size]!) (Array.range (2 * Tryz.prog.types[9].size))) q.cells.zipIdx) #[q2,q1][0].cells.zipIdx).toList (i * 1+j))),q1])))):=by kernel_rfl
set_option maxRecDepth 100000 in
theorem rsum_run (a d:ByteArray) (c f t:Int):runO Tryz.prog (CPs Tryz.prog) noL Tryz.f133 [.v (.string a),.v (.string d),.v (.int .i64 c),.v (.agg #[.int .i64 f,.int .i64 t])] [] =
 letI q:=Value.string (pseuB f t (i64.wrap ((↑a.size:Int)+(↑d.size:Int))));
 letI q0:=Value.string (ByteArray.mk #[]);
 letI q1:=Value.bool (covOk d c);
 letI q2:=Value.string (covB a d c);
 .need (a.size≤1000000∧d.size≤1000000) (.need (StrP 2 fun i j=>cellAt (Array.foldl (fun cs x=>match x with | (c,j)=>cs.setIfInBounds (1+j) c) (Array.foldl (fun cs x=>match x with | (c,j)=>cs.setIfInBounds (0+j) c) (Array.map (fun x=>q0.cells[x % 1]!) (Array.range 2)) q.cells.zipIdx) #[q2,q1][0].cells.zipIdx).toList (i * 1+j)) (.leaf (Value.tuple (Array.mk [Value.int i64 (sumR 2 (psF fun i j=>cellAt (Array.foldl (fun cs x=>match x with | (c,j)=>cs.setIfInBounds ((fun x=>x.fst) (1,Operand.tmp 29) * Tryz.prog.types[9].size+j) c) (Array.foldl (fun cs x=>match x with | (c,j)=>cs.setIfInBounds ((fun x=>x.fst) (0,Operand.tmp 28) * Tryz.prog.types[9].size+j) c) (Array.map (fun x=>q0.cells[x % q0.cells.size]!) (Array.range (2 * Tryz.prog.types[9].size))) q.cells.zipIdx) #[q2,q1][0].cells.zipIdx).toList (i * 1+j))),q1])))):=by kernel_rfl
abbrev CPf (P:Program):Cfg:=both P SPk1 FPk1 fsPk1
theorem CPf_ok:CfgOk Tryz.prog (CPf Tryz.prog):=both_ok SPk1_ok FPk1_ok
set_option maxRecDepth 100000 in
theorem pfields_run (p:Pk) (n:Nat) (f:Nat→Nat→Value):runO Tryz.prog (CPf Tryz.prog) noL Tryz.f61 [p.s (.ref 0)] [.row n 2 f] =
 letI q6:=(0:Int);
 letI q5:=(1:Int);
 letI q8:=(8:Int);
 letI q0:=ByteArray.mk #[];
 letI p2:=q6≤q5∧q5≤q8∧q0.size≤1099511627776;
 letI q7:=(3:Int);
 letI p9:=served p.1;
 letI p0:=(4:Int);
 letI q4:=Oct.put (Oct.put q0 q6 q5) p.ack q7;
 letI q9:=decide (p.1=(7:Int));
 letI p5:=Oct.put q4 p.service p0;
 letI p7:=Array.mk [];
 letI q2:=Oct.put (ByteArray.mk (Array.mk (p7.toList++Oct.be 0 1))) p.8 q7;
 letI z0:=Oct.put q2 p.9 p0;
 letI p6:=Oct.put q0 p.service p0;
 letI p1:=ByteArray.mk p7;
 letI z1:=Oct.put p1 p.9 p0;
 letI q:T Value:=.ite (Head.acks p.1) (.need p2 (.need (q6≤q7∧q7≤q8∧(Oct.put q0 q6 q5).size≤1099511627776) (.ite p9 (.need (q6≤p0∧p0≤q8∧q4.size≤1099511627776) (.ite q9 (.need (q6≤q5∧q5≤q8∧p5.size≤1099511627776) (.need (q6≤q7∧q7≤q8∧(Oct.put p5 p.code q5).size≤1099511627776) (.leaf (Value.string (Oct.put (Oct.put z0 p.10 q5) p.11 q7))))) (.leaf (Value.string z0)))) (.ite q9 (.need (q6≤q5∧q5≤q8∧q4.size≤1099511627776) (.need (q6≤q7∧q7≤q8∧(Oct.put q4 p.code q5).size≤1099511627776) (.leaf (Value.string (Oct.put (Oct.put q2 p.10 q5) p.11 q7))))) (.leaf (Value.string q2)))))) (.ite p9 (.need (q6≤p0∧p0≤q8∧q0.size≤1099511627776) (.ite q9 (.need (q6≤q5∧q5≤q8∧p6.size≤1099511627776) (.need (q6≤q7∧q7≤q8∧(Oct.put p6 p.code q5).size≤1099511627776) (.leaf (Value.string (Oct.put (Oct.put z1 p.10 q5) p.11 q7))))) (.leaf (Value.string z1)))) (.ite q9 (.need p2 (.need (q6≤q7∧q7≤q8∧(Oct.put q0 p.code q5).size≤1099511627776) (.leaf (Value.string (Oct.put (Oct.put p1 p.10 q5) p.11 q7))))) (.leaf (Value.string p1))));
 letI p8:=(6:Int);
 letI q1:=Oct.put (ByteArray.mk (Array.mk (p7.toList++Oct.be 0 2))) p.8 p8;
 letI p3:=Oct.put q0 q6 (2:Int);
 letI q3:=Oct.put p3 p.ack p8;
 letI p4:=Oct.put q3 p.service p0;
 letI z:=Oct.put q1 p.9 p0;
 .ite (Head.acks p.1) (.ite p.2 (.need (q6≤(2:Int)∧(2:Int)≤q8∧q0.size≤1099511627776) (.need (q6≤p8∧p8≤q8∧p3.size≤1099511627776) (.ite p9 (.need (q6≤p0∧p0≤q8∧q3.size≤1099511627776) (.ite q9 (.need (q6≤q5∧q5≤q8∧p4.size≤1099511627776) (.need (q6≤q7∧q7≤q8∧(Oct.put p4 p.code q5).size≤1099511627776) (.leaf (Value.string (Oct.put (Oct.put z p.10 q5) p.11 q7))))) (.leaf (Value.string z)))) (.ite q9 (.need (q6≤q5∧q5≤q8∧q3.size≤1099511627776) (.need (q6≤q7∧q7≤q8∧(Oct.put q3 p.code q5).size≤1099511627776) (.leaf (Value.string (Oct.put (Oct.put q1 p.10 q5) p.11 q7))))) (.leaf (Value.string q1)))))) q) q:=by kernel_rfl
end Go.Proofs.YthacfgaacleaeaaGreatDoor
namespace Go.Proofs.YthacfgaacleaeaaGreatDoor
open Go.IntKind (i64 u32)
open Go.RowKit Sym Go.ChangeShapes Go.WideShapes Go.ChangeMaps Inet
theorem mem_none (w:World):Mem w [] [] [] w :=
  ⟨⟨rfl,fun k x u h=>by simp at h,fun k j b ⟨x,u,h,_⟩=>by simp at h,fun k j b ⟨x,u,h,_⟩=>by simp at h⟩,.refl _ _,fun k b ⟨x,u,h,_⟩=>by simp at h⟩
def sumXY (x y:ByteArray):Int:=65535 - foldN ((tot16 x.data.toList+tot16 y.data.toList:Nat):Int)
theorem sum_two (F:Nat→Nat→Value) (x y:ByteArray) (h0:F 0 0 = .string x) (h1:F 1 0 = .string y):sumR 2 (psF F)=sumXY x y:=by
  have e0:psF F 0=x:=by unfold psF;rw [h0];rfl
  have e1:psF F 1=y:=by unfold psF;rw [h1];rfl
  unfold sumR sumXY
  simp only [totR,e0,e1,Nat.zero_add]
theorem strP_two (F:Nat→Nat→Value) (x y:ByteArray) (h0:F 0 0 = .string x) (h1:F 1 0 = .string y) (hx:x.size≤10000) (hy:y.size≤10000):StrP 2 F:=by
  have e0:psF F 0=x:=by unfold psF;rw [h0];rfl
  have e1:psF F 1=y:=by unfold psF;rw [h1];rfl
  refine ⟨fun i hi=>?_,by decide,fun i hi=>?_⟩
  · match i,hi with
    | 0,_=>rw [h0,e0]
    | 1,_=>rw [h1,e1]
  · match i,hi with
    | 0,_=>rw [e0];exact hx
    | 1,_=>rw [e1];exact hy
theorem covB_size (h d:ByteArray) (c:Int):(covB h d c).size≤h.size+d.size:=by
  unfold covB
  split
  · split
    · rw [ByteArray.size_append];omega
    · rw [ByteArray.size_append,ByteArray.size_extract];omega
  · exact Nat.zero_le _
def sumP (a d:ByteArray) (c f t:Int):Int:=sumXY (pseuB f t ((a.size:Int)+d.size)) (covB a d c)
def tSumP:List Value→Option (List Prop×Value) | [.string a,.string d,.int .i64 c,.agg ⟨[.int .i64 f,.int .i64 t]⟩]=>some ([a.size≤5000∧d.size≤5000],.tuple #[.int .i64 (sumP a d c f t),.bool (covOk d c)]) | _=>none
theorem sum_leaf {F:Nat→Nat→Value} {x y:ByteArray} {b:Bool} (h0:F 0 0 = .string x) (h1:F 1 0 = .string y):Value.tuple (Array.mk [Value.int .i64 (sumR 2 (psF F)),Value.bool b])=Value.tuple #[.int .i64 (sumXY x y),.bool b]:=by rw [sum_two F x y h0 h1]
set_option maxRecDepth 100000 in
theorem packet_sum (a d:ByteArray) (c f t:Int) (h:a.size≤5000∧d.size≤5000) (w:World):Calls Tryz.prog 62 #[.string a,.string d,.int .i64 c,.agg #[.int .i64 f,.int .i64 t]] w fun e w'=>e = .returned (.tuple #[.int .i64 (sumP a d c f t),.bool (covOk d c)])∧Below w.heap.size w w':=by
  obtain ⟨h1,h2⟩:=h
  have hc:=covB_size a d c
  have hw:i64.wrap ((a.size:Int)+d.size)=(a.size:Int)+d.size:=w64 _ (by omega) (by omega)
  have hp:=pseuB_size f t ((a.size:Int)+d.size)
  refine calls_runO CPs_ok follows Tryz.func62 (by kernel_rfl) (by kernel_rfl) (noloops (by kernel_rfl)) (psum_run a d c f t) ?_ (mem_none w) rfl
  unfold sumP
  rw [hw]
  exact ⟨⟨by omega,by omega⟩,strP_two _ (pseuB f t ((a.size:Int)+d.size)) (covB a d c) (by kernel_rfl) (by kernel_rfl) (by rw [hp];omega) (by omega),sum_leaf (by kernel_rfl) (by kernel_rfl)⟩
set_option maxRecDepth 100000 in
theorem ref10_sum (a d:ByteArray) (c f t:Int) (h:a.size≤5000∧d.size≤5000) (w:World):Calls Tryz.prog 133 #[.string a,.string d,.int .i64 c,.agg #[.int .i64 f,.int .i64 t]] w fun e w'=>e = .returned (.tuple #[.int .i64 (sumP a d c f t),.bool (covOk d c)])∧Below w.heap.size w w':=by
  obtain ⟨h1,h2⟩:=h
  have hc:=covB_size a d c
  have hw:i64.wrap ((a.size:Int)+d.size)=(a.size:Int)+d.size:=w64 _ (by omega) (by omega)
  have hp:=pseuB_size f t ((a.size:Int)+d.size)
  refine calls_runO CPs_ok follows Tryz.func133 (by kernel_rfl) (by kernel_rfl) (noloops (by kernel_rfl)) (rsum_run a d c f t) ?_ (mem_none w) rfl
  unfold sumP
  rw [hw]
  exact ⟨⟨by omega,by omega⟩,strP_two _ (pseuB f t ((a.size:Int)+d.size)) (covB a d c) (by kernel_rfl) (by kernel_rfl) (by rw [hp];omega) (by omega),sum_leaf (by kernel_rfl) (by kernel_rfl)⟩
def fieldsA (p:Pk):ByteArray:=if Head.acks p.kind=true then (if p.long=true then Oct.put (Oct.put ⟨⟨[]⟩⟩ 0 2) p.ack 6 else Oct.put (Oct.put ⟨⟨[]⟩⟩ 0 1) p.ack 3) else ⟨⟨[]⟩⟩
def fieldsS (p:Pk):ByteArray:=if served p.kind=true then Oct.put (fieldsA p) p.service 4 else fieldsA p
def fieldsB (p:Pk):ByteArray:=if p.kind=7 then Oct.put (Oct.put (fieldsS p) p.code 1) p.detail 3 else fieldsS p
theorem fieldsA_size (p:Pk):(fieldsA p).size≤8:=by
  unfold fieldsA
  split
  · split <;> (rw [Oct.put_size,Oct.put_size];decide)
  · decide
theorem fieldsS_size (p:Pk):(fieldsS p).size≤12:=by
  have:=fieldsA_size p
  unfold fieldsS
  split
  · rw [Oct.put_size];omega
  · omega
theorem fieldsB_size (p:Pk):(fieldsB p).size≤16:=by
  have:=fieldsS_size p
  unfold fieldsB
  split
  · rw [Oct.put_size,Oct.put_size];omega
  · omega
set_option maxRecDepth 100000 in
theorem packet_fields (p:Pk) (n:Nat) (f:Nat→Nat→Value) (o:Value) (w:World) (hv:∀ B,BlkSat B w o (.row n 2 f)):Calls Tryz.prog 61 #[p.v o] w fun e w'=>e = .returned (.string (fieldsB p))∧Below w.heap.size w w':=by
  refine calls_runO CPf_ok follows Tryz.func61 (by kernel_rfl) (by kernel_rfl) (noloops (by kernel_rfl)) (pfields_run p n f) ?_ (mem_row (hv [o])) rfl
  have z:(ByteArray.mk #[]).size≤1099511627776:=Nat.zero_le _
  have q:∀ s x k,(Oct.put s x k).size=s.size+k.toNat:=Oct.put_size
  unfold fieldsB fieldsS fieldsA
  generalize Head.acks p.kind=x
  generalize served p.kind=y
  generalize p.long=l
  by_cases h7:p.kind=7
  · rw [if_pos h7,decide_eq_true h7]
    cases x <;> cases y <;> cases l <;>
      (repeat' (first | (with_reducible refine t_need ?_ ?_) | (with_reducible refine t_ite ?_ ?_;all_goals intro h;all_goals (first | (simp only [Bool.false_eq_true,Bool.true_eq_false] at h;done) | skip)) | (with_reducible refine t_leaf ?_))) <;>
      first | rfl | exact ⟨by decide,by decide,by first | exact z | (simp only [q];decide)⟩
  · rw [if_neg h7,decide_eq_false h7]
    cases x <;> cases y <;> cases l <;>
      (repeat' (first | (with_reducible refine t_need ?_ ?_) | (with_reducible refine t_ite ?_ ?_;all_goals intro h;all_goals (first | (simp only [Bool.false_eq_true,Bool.true_eq_false] at h;done) | skip)) | (with_reducible refine t_leaf ?_))) <;>
      first | rfl | exact ⟨by decide,by decide,by first | exact z | (simp only [q];decide)⟩
end Go.Proofs.YthacfgaacleaeaaGreatDoor
namespace Go.Proofs.YthacfgaacleaeaaGreatDoor
open Go.IntKind (i64 u32)
open Go.RowKit Sym Sha Go.ChangeShapes Go.WideShapes Go.ChangeMaps
theorem fdiv_zero {z c:Int} (h0:0≤z) (h1:z < c):z.fdiv c=0:=by
  rw [Int.fdiv_eq_ediv_of_nonneg _ (by omega)]
  exact Int.ediv_eq_zero_of_lt h0 h1
theorem FPm0_ok:LOk Tryz.prog (FPm0 Tryz.prog (MpFn.mk Tryz.f149 Tryz.f150 Tryz.f153 Tryz.f151 Tryz.f152 Tryz.f100 Tryz.f228 Tryz.f231) (MpF2.mk Tryz.f226 Tryz.f229 Tryz.f227 Tryz.f230 Tryz.f148 Tryz.f99 Tryz.f232 Tryz.f233)) :=
  addT_ok (addT_ok (addT_ok noF_ok
    (by kernel_rfl) (inl_ok (onlyS_ok noS_ok) follows Tryz.func233 (by kernel_rfl) (by kernel_rfl) (one_loop (b:=loopAt Tryz.f233 0) (id:=0) (by kernel_rfl) fun st t h=>by rw [addL_same h];exact unroll_ok (onlyS_ok noS_ok) follows (by kernel_rfl) (noloops (by kernel_rfl)) 4 st)))
    (by kernel_rfl) (inl_ok (onlyS_ok noS_ok) follows Tryz.func100 (by kernel_rfl) (by kernel_rfl) (noloops (by kernel_rfl))))
    (by kernel_rfl) (inl_ok (onlyS_ok noS_ok) follows Tryz.func149 (by kernel_rfl) (by kernel_rfl) (noloops (by kernel_rfl)))
theorem CPm0_ok:CfgOk Tryz.prog (CPm0 Tryz.prog (MpFn.mk Tryz.f149 Tryz.f150 Tryz.f153 Tryz.f151 Tryz.f152 Tryz.f100 Tryz.f228 Tryz.f231) (MpF2.mk Tryz.f226 Tryz.f229 Tryz.f227 Tryz.f230 Tryz.f148 Tryz.f99 Tryz.f232 Tryz.f233)):=both_ok SOct_ok FPm0_ok
theorem FPm1_ok:LOk Tryz.prog (FPm1 Tryz.prog (MpFn.mk Tryz.f149 Tryz.f150 Tryz.f153 Tryz.f151 Tryz.f152 Tryz.f100 Tryz.f228 Tryz.f231) (MpF2.mk Tryz.f226 Tryz.f229 Tryz.f227 Tryz.f230 Tryz.f148 Tryz.f99 Tryz.f232 Tryz.f233)):=addT_ok FPm0_ok (by kernel_rfl) (inl_ok CPm0_ok follows Tryz.func232 (by kernel_rfl) (by kernel_rfl) (noloops (by kernel_rfl)))
theorem CPm1_ok:CfgOk Tryz.prog (CPm1 Tryz.prog (MpFn.mk Tryz.f149 Tryz.f150 Tryz.f153 Tryz.f151 Tryz.f152 Tryz.f100 Tryz.f228 Tryz.f231) (MpF2.mk Tryz.f226 Tryz.f229 Tryz.f227 Tryz.f230 Tryz.f148 Tryz.f99 Tryz.f232 Tryz.f233)):=both_ok SOct_ok FPm1_ok
theorem FPm2_ok:LOk Tryz.prog (FPm2 Tryz.prog (MpFn.mk Tryz.f149 Tryz.f150 Tryz.f153 Tryz.f151 Tryz.f152 Tryz.f100 Tryz.f228 Tryz.f231) (MpF2.mk Tryz.f226 Tryz.f229 Tryz.f227 Tryz.f230 Tryz.f148 Tryz.f99 Tryz.f232 Tryz.f233)) :=
  addT_ok (addT_ok (addT_ok (addT_ok (addT_ok FPm1_ok
    (by kernel_rfl) (inl_ok CPm1_ok follows Tryz.func148 (by kernel_rfl) (by kernel_rfl) (one_loop (b:=loopAt Tryz.f148 0) (id:=0) (by kernel_rfl) fun st t h=>by rw [addL_same h];exact unroll_ok CPm1_ok follows (by kernel_rfl) (noloops (by kernel_rfl)) 4 st)))
    (by kernel_rfl) (inl_ok CPm1_ok follows Tryz.func230 (by kernel_rfl) (by kernel_rfl) (noloops (by kernel_rfl))))
    (by kernel_rfl) (inl_ok CPm1_ok follows Tryz.func227 (by kernel_rfl) (by kernel_rfl) (noloops (by kernel_rfl))))
    (by kernel_rfl) (inl_ok CPm1_ok follows Tryz.func229 (by kernel_rfl) (by kernel_rfl) (noloops (by kernel_rfl))))
    (by kernel_rfl) (inl_ok CPm1_ok follows Tryz.func226 (by kernel_rfl) (by kernel_rfl) (noloops (by kernel_rfl)))
theorem CPm2_ok:CfgOk Tryz.prog (CPm2 Tryz.prog (MpFn.mk Tryz.f149 Tryz.f150 Tryz.f153 Tryz.f151 Tryz.f152 Tryz.f100 Tryz.f228 Tryz.f231) (MpF2.mk Tryz.f226 Tryz.f229 Tryz.f227 Tryz.f230 Tryz.f148 Tryz.f99 Tryz.f232 Tryz.f233)):=both_ok SOct_ok FPm2_ok
theorem FPm3_ok:LOk Tryz.prog (FPm3 Tryz.prog (MpFn.mk Tryz.f149 Tryz.f150 Tryz.f153 Tryz.f151 Tryz.f152 Tryz.f100 Tryz.f228 Tryz.f231) (MpF2.mk Tryz.f226 Tryz.f229 Tryz.f227 Tryz.f230 Tryz.f148 Tryz.f99 Tryz.f232 Tryz.f233)):=addT_ok FPm2_ok (by kernel_rfl) (inl_ok CPm2_ok follows Tryz.func99 (by kernel_rfl) (by kernel_rfl) (one_loop (b:=loopAt Tryz.f99 0) (id:=0) (by kernel_rfl) fun st t h=>by rw [addL_same h];exact unroll_ok CPm2_ok follows (by kernel_rfl) (noloops (by kernel_rfl)) 4 st))
theorem CPm3_ok:CfgOk Tryz.prog (CPm3 Tryz.prog (MpFn.mk Tryz.f149 Tryz.f150 Tryz.f153 Tryz.f151 Tryz.f152 Tryz.f100 Tryz.f228 Tryz.f231) (MpF2.mk Tryz.f226 Tryz.f229 Tryz.f227 Tryz.f230 Tryz.f148 Tryz.f99 Tryz.f232 Tryz.f233)):=both_ok SOct_ok FPm3_ok
def m4 (z:Int):Mp:=⟨4,0,0,z,0,0,⟨⟨[]⟩⟩⟩
def m6 (z:Int):Mp:=⟨6,0,0,z,0,0,⟨⟨[]⟩⟩⟩
def m5 (s:ByteArray):Mp:=⟨5,0,0,0,0,0,s⟩
def tM (m:Mp):ByteArray:=if m.kind=4 then Oct.put (Oct.put ⟨⟨[]⟩⟩ 4 1) m.num 6 else if m.kind=6 then Oct.put (Oct.put ⟨⟨[]⟩⟩ 6 1) m.num 2 else Oct.put ⟨⟨[]⟩⟩ 5 1++m.bytes
def PutM (m:Mp):Prop:=∀ W,Calls Tryz.prog 54 #[mulV m] W fun e w'=>e = .returned (.tuple #[.agg #[.int .i64 46,.string (tM m)],.int .i64 0])∧Below W.heap.size W w'
set_option maxRecDepth 100000 in
theorem put_4 (z:Int) (h0:0≤z) (h1:z < 281474976710656):PutM (m4 z):=fun W=>by
  refine calls_runO CPm3_ok follows Tryz.func54 (by kernel_rfl) (by kernel_rfl) (one_loop (b:=loopAt Tryz.f54 0) (id:=0) (by kernel_rfl) fun st t h=>by rw [addL_same h];exact unroll_ok CPm3_ok follows (by kernel_rfl) (noloops (by kernel_rfl)) 4 st) (put4_run z) ?_ (mem_none W) rfl
  have e1:z.fdiv 281474976710656=0:=fdiv_zero h0 h1
  have e0:¬ z < 0:=by omega
  simp only [T.ok,e0,e1,Int.reduceEq,Int.reduceLE,Int.reduceLT,Nat.reduceLT,Nat.reduceLeDiff,Nat.lt_irrefl,decide_true,decide_false,Bool.true_eq_false,Bool.false_eq_true,Bool.not_true,Bool.not_false,reduceCtorEq,false_implies,true_implies,implies_true,and_true,true_and,and_self]
  first | rfl | (refine ⟨?_,?_⟩ <;> first | rfl | decide | omega) | skip
set_option maxRecDepth 100000 in
theorem put_6 (z:Int) (h0:0≤z) (h1:z < 65536):PutM (m6 z):=fun W=>by
  refine calls_runO CPm3_ok follows Tryz.func54 (by kernel_rfl) (by kernel_rfl) (one_loop (b:=loopAt Tryz.f54 0) (id:=0) (by kernel_rfl) fun st t h=>by rw [addL_same h];exact unroll_ok CPm3_ok follows (by kernel_rfl) (noloops (by kernel_rfl)) 4 st) (put6_run z) ?_ (mem_none W) rfl
  have e1:z.fdiv 65536=0:=fdiv_zero h0 h1
  have e0:¬ z < 0:=by omega
  simp only [T.ok,e0,e1,Int.reduceEq,Int.reduceLE,Int.reduceLT,Nat.reduceLT,Nat.reduceLeDiff,Nat.lt_irrefl,decide_true,decide_false,Bool.true_eq_false,Bool.false_eq_true,Bool.not_true,Bool.not_false,reduceCtorEq,false_implies,true_implies,implies_true,and_true,true_and,and_self]
  first | rfl | (refine ⟨?_,?_⟩ <;> first | rfl | decide | omega) | skip
set_option maxRecDepth 100000 in
theorem put_5 (s:ByteArray) (hs:s.size=32):PutM (m5 s):=fun W=>by
  refine calls_runO CPm3_ok follows Tryz.func54 (by kernel_rfl) (by kernel_rfl) (one_loop (b:=loopAt Tryz.f54 0) (id:=0) (by kernel_rfl) fun st t h=>by rw [addL_same h];exact unroll_ok CPm3_ok follows (by kernel_rfl) (noloops (by kernel_rfl)) 4 st) (put5_run s) ?_ (mem_none W) rfl
  have e1:(s.size:Int)=32:=by omega
  simp only [T.ok,e1,Int.reduceEq,Int.reduceLE,Int.reduceLT,Nat.reduceLT,Nat.reduceLeDiff,Nat.lt_irrefl,decide_true,decide_false,Bool.true_eq_false,Bool.false_eq_true,Bool.not_true,Bool.not_false,reduceCtorEq,false_implies,true_implies,implies_true,and_true,true_and,and_self]
  have:1+s.size≤9223372036854775807:=by omega
  first | rfl | (refine ⟨?_,?_⟩ <;> first | rfl | decide | omega) | skip
theorem opt_infoP:(Tryz.prog.info? 70).map (fun i=>(i.zero,i.size,i.bytes))=some (some (.agg #[.int .i64 0,.string ⟨#[]⟩]),2,24):=by kernel_rfl
def oM (m:Mp):Op:=⟨46,tM m⟩
def gM (L:List Mp):Nat→Op:=opN (L.map oM)
theorem chkO_zero {n:Nat} {g:Nat→Op} (h1:∀ i,i < n→rightO (g i)=0) (h2:∀ i,i < n→(g i).kind ≠ 1) (h3:sizeL g n≤400):chkO n g=0:=by
  obtain ⟨b1,-,b3⟩:=firstOf_le (badO g) n
  obtain ⟨m1,-,m3⟩:=firstOf_le (mandO n g) n
  have hb:¬ badE n g < n:=fun q=>by
    have t:badO g (badE n g)=true:=b3 q
    have e:badO g (badE n g)=!decide (rightO (g (badE n g))=0):=rfl
    rw [e,h1 _ q] at t
    simp at t
  have hm:¬ mandE n g < n:=fun q=>by
    have t:mandO n g (mandE n g)=true:=m3 q
    have e:mandO n g (mandE n g)=(decide ((g (mandE n g)).kind=1) && (decide (mandE n g+1=n) || decide ((g (mandE n g+1)).kind=1))):=rfl
    rw [e,Bool.and_eq_true] at t
    exact h2 _ q (of_decide_eq_true t.1)
  unfold chkO
  rw [if_neg hb,if_neg hm,if_neg (by omega)]
theorem row_opN {w:World} {u:Value} {l:List Op} {base:Nat} (h:w.ownsRow base 70 2 u l.length (opCells l)):∀ B,BlkSat B w u (.row l.length 2 fun i j=>(opN l i).c j):=fun B=>by
  have h0:VecSat w 70 2 u l.length (opCells l):=by
    refine .inl ⟨h.1,?_⟩
    rcases h.2 with q | ⟨g,cap,cur,q,-,q2⟩
    · exact .inl q
    · exact .inr ⟨g,cap,cur,q,Nat.zero_le _,q2⟩
  have h1:BlkSat B w u (.vec true 70 2 l.length (opCells l)):=h0
  have h2:BlkSat B w u (.row l.length 2 fun i j=>cellAt (opCells l) (i * 2+j)):=rowBlk_sat h1
  refine row_congr h2 fun i j hi hj=>?_
  obtain ⟨e0,e1⟩:=opCells_at l i hi
  match j,hj with
  | 0,_=>exact e0
  | 1,_=>exact e1
theorem clone_nilP (w:World):Calls Tryz.prog 53 #[.slice none 0 0] w fun e w'=>e = .returned (.slice none 0 0)∧w=w':=by
  have qT:∀ (w:World) (a:Option Addr) (n c n' c':Nat),(binOp .eql 23 (.slice a n c) (.slice none n' c')).run Tryz.prog w = .ok (.bool a.isNone) w:=fun w a n c n' c'=>Lib.run_eql_slice_nil w _ _ a n c n' c' Tryz.underlying23
  go_enter Tryz.func53,Tryz.ntmps53
  go_wp2
  go_ret
  exact ⟨rfl,rfl⟩
theorem few_gM {L:List Mp} (hL:L.length≤1000) (hs:∀ m ∈ L,(tM m).size≤1000000):Few (L.map oM).length (gM L):=by
  refine ⟨by rw [List.length_map];exact hL,fun i hi=>?_⟩
  unfold gM opN
  rw [List.getD_eq_getElem?_getD,List.getElem?_eq_getElem hi]
  simp only [List.length_map] at hi
  simp only [Option.getD_some,List.getElem_map]
  exact hs _ (List.getElem_mem hi)
set_option maxRecDepth 100000 in
set_option maxHeartbeats 4000000 in
theorem say_any {w:World} {v:Value} {L:List Mp} (hL:L.length≤1000) (h:MusAt w v L) (hp:∀ m ∈ L,PutM m) (hs:∀ m ∈ L,(tM m).size≤1000000) (hc:chkO (L.map oM).length (gM L)=0) :
    Calls Tryz.prog 25 #[.slice none 0 0,v] w fun e w'=>∃ u,e = .returned (.tuple #[u,.int .i64 0])∧w'.ownsRow w.heap.size 70 2 u (L.map oM).length (opCells (L.map oM))∧Below w.heap.size w w':=by
  obtain ⟨p,cap,rfl,hcap,hcell⟩:=h.cells
  obtain ⟨i0,hi,hz0,hz1,hz2⟩:=info_parts opt_infoP
  have hchk:∀ (W:World) (u:Value),W.ownsRow w.heap.size 70 2 u (L.map oM).length (opCells (L.map oM))→Calls Tryz.prog 55 #[u] W fun e w'=>e = .returned (.int .i64 0)∧Below W.heap.size W w':=fun W u ho=>by
    rw [← hc]
    exact opts_Check _ _ (few_gM hL hs) u W (row_opN ho)
  have hcl:=clone_nilP
  go_enter Tryz.func25,Tryz.ntmps25
  go_wp2_with (go_at_call 53;refine (hcl _).mono ?_;rintro e w1 ⟨rfl,rfl⟩)
  go_loopw [6,16] (fun u6 u16 wr=>∃ i:Nat,u16 = .int .i64 i∧i≤L.length∧wr.ownsRow w.heap.size 70 2 u6 i (opCells ((L.take i).map oM))∧Below w.heap.size w wr)
    (fun _ u16 _=>L.length - natM u16)
  case atStart=>exact ⟨0,rfl,Nat.zero_le _,World.ownsRow_nil _ _ _ _,Below.refl _ _⟩
  case round =>
    obtain ⟨i,rfl,hile,hrow,hb⟩:=hrel
    by_cases hlt:i < L.length
    · obtain ⟨bb,o,rfl,hbl,hc7⟩:=hcell i hlt
      obtain ⟨c0,c1,c2,c3,c4,c5,c6⟩:=hc7.below hbl hb
      have hput:=hp _ (List.getElem_mem hlt)
      have hnx:opCells ((L.take (i+1)).map oM)=opCells ((L.take i).map oM)++[.int .i64 46,.string (tM L[i])]:=by
        rw [List.take_succ_eq_append_getElem hlt,List.map_append,opCells_append];rfl
      unfold PutM at hput
      have hput:∀ W,Calls Tryz.prog 54 #[.agg #[.int .i64 L[i].kind,.int .i64 L[i].addr,.int .i64 L[i].prio,.int .i64 L[i].num,.int .i64 L[i].token,.int .i64 L[i].nonce,.string L[i].bytes]] W fun e w'=>e = .returned (.tuple #[.agg #[.int .i64 46,.string (tM L[i])],.int .i64 0])∧Below W.heap.size W w':=hput
      generalize tM L[i]=tx at *
      generalize L[i]=m at *
      have hltz:(i:Int) < (L.length:Int):=by omega
      clear hcell hc7 hchk
      generalize (L.take i).map oM=T at *
      go_wp2_with (first
        | (go_at_call 54;(with_reducible refine (hput _).mono ?_);rintro e w1 ⟨rfl,hb1⟩)
        | (at_builtin
           have hbw:Below w.heap.size w w1:=(hb.alloc hb.size _).trans (hb1.mono (by have:=hb.size;simp;omega))
           have hrow1:w1.ownsRow w.heap.size 70 2 u6 i (opCells T):=row_belowM (hrow.alloc _) hb1
           go_loud (refine wpList_append_lies _ rfl _ _ 23 rfl w.heap.size 70 i0 (.agg #[.int .i64 0,.string ⟨#[]⟩]) 2 24 Tryz.underlying23 hi hz0 hz1 hz2 rfl (by decide) _ _ _ rfl ((hrow1.alloc _).alloc _) ⟨w1.heap.size+1,0,none⟩ 1 1 [.int .i64 46,.string tx] rfl rfl (by
             intro j u hj
             have:=cells_newM (w1.alloc (.cells #[.int .i64 46,.string tx] 70)) #[.int .i64 46,.string tx] 70 j u hj
             simpa using this) (by simp [Value.oneCell']) (by decide) (by unfold maxLen;omega) (by omega) (by have:=hbw.size;simp;omega) (w1.heap.size+2) (by simp) ?_)
           intro g1 cg w3 hown' hg3 hat hgl
           have hb3:Below w.heap.size w w3:=((hbw.alloc (by have:=hbw.size;omega) _).alloc (by have:=hbw.size;simp;omega) _).grown hg3 (by have:=hbw.size;simp;omega) (fun j hj=>(hrow1.lt j hj).1)))
      go_roundw
      case rel =>
        refine ⟨i+1,by first | rfl | go_num,hlt,?_,hb3⟩
        rw [hnx]
        exact hown'
      case measure=>simp [natM];omega
    · obtain rfl:i=L.length:=by omega
      rw [List.take_length] at hrow
      have hltz:¬ (L.length:Int) < (L.length:Int):=by omega
      have hrow2:wr.ownsRow w.heap.size 70 2 u6 (L.map oM).length (opCells (L.map oM)):=by rw [List.length_map];exact hrow
      have hck:=hchk wr u6 hrow2
      clear hcell hchk hrow
      go_wp2_with (go_at_call 55;refine hck.mono ?_;rintro e w1 ⟨rfl,hb1⟩)
      go_ret2
      exact ⟨_,rfl,row_belowM hrow2 hb1,below_of hb hb1⟩
end Go.Proofs.YthacfgaacleaeaaGreatDoor
namespace Go.Proofs.YthacfgaacleaeaaGreatDoor
open Go.IntKind (i64 u32)
open Go.RowKit Sym Sha
theorem valU_beF (z:Int) (k:Nat) (hk:k≤7) (h0:0≤z) (h1:z < 256 ^ k):valU (ba (Oct.be (Oct.u64 z) k))=z:=by
  unfold valU
  rw [ba_data,val_be]
  have hp:(256:Nat) ^ k≤256 ^ 7:=Nat.pow_le_pow_right (by omega) hk
  have h7:(256:Nat) ^ 7=72057594037927936:=by decide
  have hz:z.toNat < 256 ^ k:=by
    have:((256 ^ k:Nat):Int)=256 ^ k:=by simp
    omega
  have hu:Oct.u64 z=z.toNat:=by unfold Oct.u64;omega
  rw [hu,Nat.mod_eq_of_lt hz]
  omega
theorem ext_one (x:UInt8) (l:List UInt8) (n:Nat) (hn:n=l.length+1):(ba (x :: l)).extract 1 n=ba l:=by
  subst hn
  apply ByteArray.ext
  simp [ba]
theorem ext_head (x:UInt8) (l:List UInt8):(ba (x :: l)).extract 0 1=ba [x]:=by
  apply ByteArray.ext
  simp [ba]
theorem ba_sizeF (l:List UInt8):(ba l).size=l.length:=by show l.toArray.size=l.length;simp
theorem kind_ba (x:UInt8) (l:List UInt8):kindM (ba (x :: l))=(x.toNat:Int):=by
  unfold kindM
  rw [ext_head]
  unfold valU
  rw [ba_data]
  have:=x.toNat_lt
  show ((Oct.val [x] % 18446744073709551616:Nat):Int)=_
  have e:Oct.val [x]=x.toNat:=by simp [Oct.val]
  rw [e];omega
theorem tM_4 (z:Int):tM (m4 z)=ba (4 :: Oct.be (Oct.u64 z) 6):=rfl
theorem tM_6 (z:Int):tM (m6 z)=ba (6 :: Oct.be (Oct.u64 z) 2):=rfl
theorem tM_5 (s:ByteArray):tM (m5 s)=ba (5 :: s.data.toList):=by
  apply ByteArray.ext
  show ((Oct.put ⟨⟨[]⟩⟩ 5 1)++s).data=_
  rw [ByteArray.data_append]
  apply Array.ext'
  rw [Array.toList_append]
  rfl
theorem get_4 (z:Int) (h0:0≤z) (h1:z < 281474976710656):errM 46 (tM (m4 z))=0∧getM 46 (tM (m4 z))=m4 z:=by
  have hl:(Oct.be (Oct.u64 z) 6).length=6:=Oct.be_length _ _
  have hz:(tM (m4 z)).size=7:=by rw [tM_4,ba_sizeF,List.length_cons,hl]
  have hk:kindM (tM (m4 z))=4:=by rw [tM_4,kind_ba];rfl
  have he:errM 46 (tM (m4 z))=0:=by
    rw [errM_at (n:=7) (by omega) (by rw [hk];rfl) (by decide),if_neg (by omega),if_neg (by omega)]
  refine ⟨he,?_⟩
  unfold getM
  rw [if_pos he,hk]
  unfold sayM
  simp only [Int.reduceEq,if_true,if_false]
  rw [tM_4,ext_one _ _ 7 (by rw [hl]),valU_beF z 6 (by omega) h0 (by omega)]
  rfl
theorem get_6 (z:Int) (h0:0≤z) (h1:z < 65536):errM 46 (tM (m6 z))=0∧getM 46 (tM (m6 z))=m6 z:=by
  have hl:(Oct.be (Oct.u64 z) 2).length=2:=Oct.be_length _ _
  have hz:(tM (m6 z)).size=3:=by rw [tM_6,ba_sizeF,List.length_cons,hl]
  have hk:kindM (tM (m6 z))=6:=by rw [tM_6,kind_ba];rfl
  have he:errM 46 (tM (m6 z))=0:=by
    rw [errM_at (n:=3) (by omega) (by rw [hk];rfl) (by decide),if_neg (by omega),if_neg (by omega)]
  refine ⟨he,?_⟩
  unfold getM
  rw [if_pos he,hk]
  unfold sayM
  simp only [Int.reduceEq,if_true,if_false]
  rw [tM_6,ext_one _ _ 3 (by rw [hl]),valU_beF z 2 (by omega) h0 (by omega)]
  rfl
theorem get_5 (s:ByteArray) (hs:s.size=32):errM 46 (tM (m5 s))=0∧getM 46 (tM (m5 s))=m5 s:=by
  have hl:s.data.toList.length=32:=by simpa using hs
  have hz:(tM (m5 s)).size=33:=by rw [tM_5,ba_sizeF,List.length_cons,hl]
  have hk:kindM (tM (m5 s))=5:=by rw [tM_5,kind_ba];rfl
  have he:errM 46 (tM (m5 s))=0:=by
    rw [errM_at (n:=33) (by omega) (by rw [hk];rfl) (by decide),if_neg (by omega),if_neg (by omega)]
  refine ⟨he,?_⟩
  unfold getM
  rw [if_pos he,hk]
  unfold sayM
  simp only [Int.reduceEq,if_true,if_false]
  rw [tM_5,ext_one _ _ 33 (by rw [hl])]
  rfl
def L3 (n t:Int) (s:ByteArray):List Mp:=[m4 n,m6 t,m5 s]
structure In3 (n t:Int) (s:ByteArray):Prop where
  n0:0≤n
  n1:n < 281474976710656
  t0:0≤t
  t1:t < 65536
  s0:s.size=32
theorem L3_put {n t:Int} {s:ByteArray} (h:In3 n t s):∀ m ∈ L3 n t s,PutM m:=by
  intro m hm
  unfold L3 at hm
  simp only [List.mem_cons,List.not_mem_nil,or_false] at hm
  rcases hm with rfl | rfl | rfl
  · exact put_4 n h.n0 h.n1
  · exact put_6 t h.t0 h.t1
  · exact put_5 s h.s0
theorem tM_sizes {n t:Int} {s:ByteArray} (h:In3 n t s):(tM (m4 n)).size=7∧(tM (m6 t)).size=3∧(tM (m5 s)).size=33:=by
  refine ⟨?_,?_,?_⟩
  · rw [tM_4,ba_sizeF,List.length_cons,Oct.be_length]
  · rw [tM_6,ba_sizeF,List.length_cons,Oct.be_length]
  · rw [tM_5,ba_sizeF,List.length_cons];have:=h.s0;simp;exact this
theorem L3_small {n t:Int} {s:ByteArray} (h:In3 n t s):∀ m ∈ L3 n t s,(tM m).size≤1000000:=by
  obtain ⟨a,b,c⟩:=tM_sizes h
  intro m hm
  unfold L3 at hm
  simp only [List.mem_cons,List.not_mem_nil,or_false] at hm
  rcases hm with rfl | rfl | rfl <;> omega
theorem gM_0 (n t:Int) (s:ByteArray):gM (L3 n t s) 0=⟨46,tM (m4 n)⟩:=rfl
theorem gM_1 (n t:Int) (s:ByteArray):gM (L3 n t s) 1=⟨46,tM (m6 t)⟩:=rfl
theorem gM_2 (n t:Int) (s:ByteArray):gM (L3 n t s) 2=⟨46,tM (m5 s)⟩:=rfl
theorem L3_chk {n t:Int} {s:ByteArray} (h:In3 n t s):chkO 3 (gM (L3 n t s))=0:=by
  obtain ⟨a,b,c⟩:=tM_sizes h
  have hr:∀ x:ByteArray,x.size≤253→rightO ⟨46,x⟩=0:=fun x hx=>by
    show (if (46:Int)≤0 then (7:Int) else if (46:Int) > 255 then 7 else if (46:Int)≤31∧¬ x.size=0 then 11 else if x.size > 253 then 11 else 0)=0
    rw [if_neg (by decide),if_neg (by decide),if_neg (fun q=>absurd q.1 (by decide)),if_neg (by omega)]
  have h3:∀ i,i < 3→i=0 ∨ i=1 ∨ i=2:=fun i hi=>by omega
  refine chkO_zero (fun i hi=>?_) (fun i hi=>?_) ?_
  · rcases h3 i hi with rfl | rfl | rfl
    · rw [gM_0];exact hr _ (by omega)
    · rw [gM_1];exact hr _ (by omega)
    · rw [gM_2];exact hr _ (by omega)
  · rcases h3 i hi with rfl | rfl | rfl
    · rw [gM_0];exact (by decide:(46:Int) ≠ 1)
    · rw [gM_1];exact (by decide:(46:Int) ≠ 1)
    · rw [gM_2];exact (by decide:(46:Int) ≠ 1)
  · show 0+sizeO (gM (L3 n t s) 0)+sizeO (gM (L3 n t s) 1)+sizeO (gM (L3 n t s) 2)≤400
    rw [gM_0,gM_1,gM_2]
    have hz:∀ x:ByteArray,sizeO ⟨46,x⟩=2+(x.size:Int):=fun x=>if_neg (by decide:¬ (46:Int)≤31)
    rw [hz,hz,hz];omega
theorem L3_all {n t:Int} {s:ByteArray} (h:In3 n t s):allM (gM (L3 n t s)) 3=L3 n t s:=by
  have g4:=get_4 n h.n0 h.n1
  have g6:=get_6 t h.t0 h.t1
  have g5:=get_5 s h.s0
  have o0:okM (gM (L3 n t s) 0)=true:=by rw [gM_0];exact decide_eq_true g4.1
  have o1:okM (gM (L3 n t s) 1)=true:=by rw [gM_1];exact decide_eq_true g6.1
  have o2:okM (gM (L3 n t s) 2)=true:=by rw [gM_2];exact decide_eq_true g5.1
  have u0:muO (gM (L3 n t s) 0)=m4 n:=by rw [gM_0];exact g4.2
  have u1:muO (gM (L3 n t s) 1)=m6 t:=by rw [gM_1];exact g6.2
  have u2:muO (gM (L3 n t s) 2)=m5 s:=by rw [gM_2];exact g5.2
  rw [allM_yes o2,allM_yes o1,allM_yes o0,u0,u1,u2]
  rfl
theorem L3_fst {n t:Int} {s:ByteArray} (h:In3 n t s):fstM (gM (L3 n t s)) 3 4 4=some (m4 n)∧fstM (gM (L3 n t s)) 3 6 6=some (m6 t)∧fstM (gM (L3 n t s)) 3 5 5=some (m5 s)∧fstM (gM (L3 n t s)) 3 7 10=none∧fstM (gM (L3 n t s)) 3 0 0=none:=by
  unfold fstM
  rw [L3_all h]
  exact ⟨rfl,rfl,rfl,rfl,rfl⟩
theorem L3_chkG {n t:Int} {s:ByteArray} (h:In3 n t s) (kn:Bool) (tag:ByteArray→ByteArray) (side:Int) (data:ByteArray):chkG kn tag side (gM (L3 n t s)) 3 data=if kn=false then 10 else if s=tag (dataText side n t data) then 0 else 14:=by
  obtain ⟨f4,f6,f5,-,-⟩:=L3_fst h
  have e4:fstD (gM (L3 n t s)) 3 4 4=m4 n:=by unfold fstD;rw [f4];rfl
  have e6:fstD (gM (L3 n t s)) 3 6 6=m6 t:=by unfold fstD;rw [f6];rfl
  have e5:fstD (gM (L3 n t s)) 3 5 5=m5 s:=by unfold fstD;rw [f5];rfl
  have b4:fstB (gM (L3 n t s)) 3 4 4=true:=by unfold fstB;rw [f4];rfl
  have b6:fstB (gM (L3 n t s)) 3 6 6=true:=by unfold fstB;rw [f6];rfl
  have b5:fstB (gM (L3 n t s)) 3 5 5=true:=by unfold fstB;rw [f5];rfl
  unfold chkG
  rw [e4,e6,e5]
  by_cases hk:kn=false
  · rw [if_pos hk,if_pos hk]
  · rw [if_neg hk,if_neg hk,if_neg (fun q=>q ⟨b4,b6,b5⟩)]
    rfl
theorem L3_says {n t:Int} {s:ByteArray} (h:In3 n t s) (kn:Bool) (tag:ByteArray→ByteArray) (side:Int):saysG kn tag side (gM (L3 n t s)) 3=false∧hearsG kn tag side (gM (L3 n t s)) 3=false:=by
  obtain ⟨-,-,-,f7,f0⟩:=L3_fst h
  have b7:fstB (gM (L3 n t s)) 3 7 10=false:=by unfold fstB;rw [f7];rfl
  have b0:fstB (gM (L3 n t s)) 3 0 0=false:=by unfold fstB;rw [f0];rfl
  unfold saysG hearsG
  rw [b7,b0]
  simp
end Go.Proofs.YthacfgaacleaeaaGreatDoor
namespace Go.Proofs.YthacfgaacleaeaaGreatDoor
open Go.IntKind (i64 u32)
open Go.RowKit Sym Go.ChangeShapes Go.WideShapes Go.ChangeMaps Inet
def SPk2:Tab:=addS 62 tSumP <| addS 133 tSumP SPk1
theorem SPk2_ok:TabOk Tryz.prog SPk2:=by
  refine addS_ok (addS_ok SPk1_ok (by kernel_rfl) ?_) (by kernel_rfl) ?_
  · (intro xs p v h hp w;unfold tSumP at h;(split at h) <;> first | (cases h;done) | (simp only [Option.some.injEq,Prod.mk.injEq] at h;obtain ⟨rfl,rfl⟩:=h;exact ref10_sum _ _ _ _ _ (hp _ (List.mem_cons_self ..)) w))
  · (intro xs p v h hp w;unfold tSumP at h;(split at h) <;> first | (cases h;done) | (simp only [Option.some.injEq,Prod.mk.injEq] at h;obtain ⟨rfl,rfl⟩:=h;exact packet_sum _ _ _ _ _ (hp _ (List.mem_cons_self ..)) w))
def putV (n:Nat) (f:Nat→Nat→Value):Value:=.tuple #[.string (putS n (opF f)),.int .i64 (chkO n (opF f))]
def ChkP (p:Pk) (n:Nat) (f:Nat→Nat→Value):Prop:=OpP n f∧p.data.size≤1000000
def FPk2:LTab:=addR 58 (rd1 2 OpP putV) <| addR 61 (rdP (fun _ _ _=>True) fun p _ _=>.string (fieldsB p)) <| addR 56 (rdP ChkP fun p n f=>.int .i64 (chkP p n (opF f))) <| FPk1
theorem FPk2_ok:LOk Tryz.prog FPk2:=addR_ok (addR_ok (addR_ok (FPk1_ok) (by kernel_rfl) (rdP_ok fun p n fr o w hv hp=>packet_Check p n fr hp o w hv)) (by kernel_rfl) (rdP_ok fun p n fr o w hv _=>packet_fields p n fr o w hv)) (by kernel_rfl) (rd1_ok fun n f v w hv hp=>opts_Put n (opF f) hp.2 v w (op_row hv hp.1))
abbrev fsPk2:List Nat:=58 :: 61 :: 56 :: fsPk1
abbrev CP2 (P:Program):Cfg:=both P SPk2 FPk2 fsPk2
theorem CP2_ok:CfgOk Tryz.prog (CP2 Tryz.prog):=both_ok SPk2_ok FPk2_ok
def FPut (P:Program) (fW:Func):LTab:=addT 59 (inl P (CP2 P) noL fW) FPk2
theorem FPut_ok:LOk Tryz.prog (FPut Tryz.prog Tryz.f59):=addT_ok FPk2_ok (by kernel_rfl) (inl_ok CP2_ok follows Tryz.func59 (by kernel_rfl) (by kernel_rfl) (noloops (by kernel_rfl)))
abbrev CPut (P:Program) (fW:Func):Cfg:=both P SPk2 (FPut P fW) (59 :: fsPk2)
set_option maxRecDepth 100000 in
theorem pput_run (p:Pk) (n:Nat) (f:Nat→Nat→Value) (x y:Int):runO Tryz.prog (CPut Tryz.prog Tryz.f59) noL Tryz.f26 [p.s (.ref 0),.v (.agg #[.int .i64 x,.int .i64 y])] [.row n 2 f] =
 letI q2:=opF f;
 letI q4:=(0:Int);
 letI q0:=Head.H.mk p.3 p.4 (wordsP p n q2) p.5 p.6 q4 p.1 p.2 p.7;
 letI q3:=putB q0++fieldsB p++putS n q2;
 letI q:=Head.H.mk p.3 p.4 (wordsP p n q2) p.5 p.6 (sumP q3 p.12 p.6 x y) p.1 p.2 p.7;
 letI q1:=Value.string (ByteArray.mk (Array.mk []));
 .need (ChkP p n f) (.ite (!decide (chkP p n q2=q4)) (.leaf (Value.tuple (Array.mk [q1,Value.int i64 (chkP p n q2)]))) (.need (OpP n f) (.need (OpP n f) (.ite (!decide (chkO n q2=q4)) (.leaf (Value.tuple (Array.mk [q1,Value.int i64 (chkO n q2)]))) (.need True (.need ((putB q0).size+(fieldsB p).size≤9223372036854775807) (.need ((putB q0++fieldsB p).size+(putS n q2).size≤9223372036854775807) (.ite (!decide (Head.check q0=q4)) (.leaf (Value.tuple (Array.mk [q1,Value.int i64 (Head.check q0)]))) (.need (q3.size≤5000∧p.12.size≤5000) (.need True (.need ((putB q).size+(fieldsB p).size≤9223372036854775807) (.need ((putB q++fieldsB p).size+(putS n q2).size≤9223372036854775807) (.need ((putB q++fieldsB p++putS n q2).size+p.12.size≤9223372036854775807) (.leaf (Value.tuple (Array.mk [Value.string (putB q++fieldsB p++putS n q2++p.12),Value.int i64 (Head.check q)])))))))))))))))):=by kernel_rfl
end Go.Proofs.YthacfgaacleaeaaGreatDoor
namespace Go.Proofs.YthacfgaacleaeaaGreatDoor
open Go.IntKind (i64 u32)
open Go.RowKit Sym Go.ChangeShapes Go.WideShapes Go.ChangeMaps Inet
theorem sumXY_bd (x y:ByteArray):0≤sumXY x y∧sumXY x y≤65535:=by
  unfold sumXY
  have:=fold_bd (n:=((tot16 x.data.toList+tot16 y.data.toList:Nat):Int)) (by omega)
  omega
theorem sumP_bd (a d:ByteArray) (c f t:Int):0≤sumP a d c f t∧sumP a d c f t≤65535:=sumXY_bd _ _
theorem check_sum {s:Int} (h:0≤s∧s≤65535) (p:Pk) (n:Nat) (g:Nat→Op):Head.check (begH p n g s)=Head.check (begH p n g 0):=by
  have e1:Head.wi s 65535=true:=decide_eq_true h
  have e0:Head.wi 0 65535=true:=rfl
  unfold Head.check begH
  simp only [e1,e0]
theorem putB_le (h:Head.H):(putB h).size≤16:=by
  unfold putB
  split
  · show (Head.put h).length≤16
    unfold Head.put
    split <;> simp [Oct.be_length]
  · exact Nat.zero_le _
theorem putS_size {n:Nat} {g:Nat→Op}:(putS n g).size≤404:=by
  unfold putS
  split
  · rename_i hc
    obtain ⟨h1,h2⟩:=chkO_ok hc
    have h3:=optL_len (n:=n) h1
    show (optP n g).length≤404
    unfold optP padN
    rw [List.length_append,List.length_replicate]
    omega
  · exact Nat.zero_le _
def aheadP (p:Pk) (n:Nat) (g:Nat→Op) (s:Int):ByteArray:=putB (begH p n g s)++fieldsB p++putS n g
theorem aheadP_size (p:Pk) (n:Nat) (g:Nat→Op) (s:Int):(aheadP p n g s).size≤436:=by
  have h1:=putB_le (begH p n g s)
  have h2:=fieldsB_size p
  have h3:=putS_size (n:=n) (g:=g)
  unfold aheadP
  rw [ByteArray.size_append,ByteArray.size_append];omega
def sumOf (p:Pk) (n:Nat) (g:Nat→Op) (x y:Int):Int:=sumP (aheadP p n g 0) p.data p.cover x y
def putP (p:Pk) (n:Nat) (g:Nat→Op) (x y:Int):ByteArray:=if chkP p n g=0 then aheadP p n g (sumOf p n g x y)++p.data else ⟨⟨[]⟩⟩
theorem chkP_ok {p:Pk} {n:Nat} {g:Nat→Op} (h:chkP p n g=0):Head.check (begH p n g 0)=0∧numP p=true∧chkO n g=0∧p.data.size≤200∧spareP p=false∧covOk p.data p.cover=true:=by
  unfold chkP at h
  split at h
  · rename_i h1
    split at h
    · rename_i h2
      split at h
      · rename_i h3
        split at h
        · cases h
        · rename_i h4
          split at h
          · cases h
          · rename_i h5
            split at h
            · rename_i h6
              exact ⟨h1,h2,h3,by omega,by simpa using h5,h6⟩
            · cases h
      · rename_i h3;exact absurd h h3
    · cases h
  · rename_i h1;exact absurd h h1
set_option maxRecDepth 100000 in
theorem packet_Put (p:Pk) (n:Nat) (f:Nat→Nat→Value) (x y:Int) (ho:ChkP p n f) (o:Value) (w:World) (hv:∀ B,BlkSat B w o (.row n 2 f)):Calls Tryz.prog 26 #[p.v o,.agg #[.int .i64 x,.int .i64 y]] w fun e w'=>e = .returned (.tuple #[.string (putP p n (opF f) x y),.int .i64 (chkP p n (opF f))])∧Below w.heap.size w w':=by
  refine calls_runO (both_ok SPk2_ok FPut_ok) follows Tryz.func26 (by kernel_rfl) (by kernel_rfl) (noloops (by kernel_rfl)) (pput_run p n f x y) ?_ (mem_row (hv [o])) rfl
  obtain ⟨h1,h2⟩:=ho
  by_cases hc:chkP p n (opF f)=0
  · have eP:putP p n (opF f) x y=aheadP p n (opF f) (sumOf p n (opF f) x y)++p.data:=if_pos hc
    obtain ⟨c1,-,c3,c4,-,-⟩:=chkP_ok hc
    have e2:Head.check (begH p n (opF f) (sumOf p n (opF f) x y))=0:=(check_sum (sumP_bd _ _ _ _ _) p n (opF f)).trans c1
    have z1:∀ s,(putB (begH p n (opF f) s)).size+(fieldsB p).size≤9223372036854775807:=fun s=>by
      have:=putB_le (begH p n (opF f) s)
      have:=fieldsB_size p
      omega
    have z2:∀ s,(putB (begH p n (opF f) s)++fieldsB p).size+(putS n (opF f)).size≤9223372036854775807:=fun s=>by
      have:=putB_le (begH p n (opF f) s)
      have:=fieldsB_size p
      have:=putS_size (n:=n) (g:=opF f)
      rw [ByteArray.size_append];omega
    have z3:∀ s,(aheadP p n (opF f) s).size+p.data.size≤9223372036854775807:=fun s=>by
      have:=aheadP_size p n (opF f) s
      omega
    refine t_need ⟨h1,h2⟩ (t_ite (fun h=>?_) fun _=>t_need h1 (t_need h1 (t_ite (fun h=>?_) fun _=>t_need trivial (t_need (z1 0) (t_need (z2 0) (t_ite (fun h=>?_) fun _=>t_need ⟨Nat.le_trans (aheadP_size p n (opF f) 0) (by decide),by omega⟩ (t_need trivial (t_need (z1 (sumOf p n (opF f) x y)) (t_need (z2 (sumOf p n (opF f) x y)) (t_need (z3 (sumOf p n (opF f) x y)) (t_leaf ?_)))))))))))
    · have h:(!decide (chkP p n (opF f)=0))=true:=h
      rw [decide_eq_true hc] at h;cases h
    · rw [decide_eq_true c3] at h;cases h
    · have h:(!decide (Head.check (begH p n (opF f) 0)=0))=true:=h
      rw [decide_eq_true c1] at h;cases h
    · show Value.tuple #[.string (aheadP p n (opF f) (sumOf p n (opF f) x y)++p.data),.int .i64 (Head.check (begH p n (opF f) (sumOf p n (opF f) x y)))]=_
      rw [e2,eP,hc]
  · have eP:putP p n (opF f) x y=⟨⟨[]⟩⟩:=if_neg hc
    refine t_need ⟨h1,h2⟩ (t_ite (fun _=>t_leaf ?_) fun h=>?_)
    · show Value.tuple #[.string ⟨⟨[]⟩⟩,.int .i64 (chkP p n (opF f))]=_
      rw [eP]
    · have h:(!decide (chkP p n (opF f)=0))=false:=h
      rw [decide_eq_false hc] at h;cases h
end Go.Proofs.YthacfgaacleaeaaGreatDoor
namespace Go.Proofs.YthacfgaacleaeaaGreatDoor
open Go.IntKind (i64 u32)
open Go.RowKit Sym Go.ChangeShapes Go.WideShapes Go.ChangeMaps Inet
end Go.Proofs.YthacfgaacleaeaaGreatDoor
namespace Go.Proofs.YthacfgaacleaeaaGreatDoor
open Go.IntKind (i64 u32)
open Go.RowKit Sym Go.ChangeShapes Go.WideShapes Go.ChangeMaps Inet
def rdPI (pp:Pk→Nat→(Nat→Nat→Value)→Int→Prop) (r:Pk→Nat→(Nat→Nat→Value)→Int→Value):List SV→List Blk→Option (List Prop×Value)
  | [s,.v (.int .i64 z)],H=>(pkIn H s).bind fun q=>some ([pp q.1 q.2.1 q.2.2 z],r q.1 q.2.1 q.2.2 z)
  | _,_=>none
def SPk3:Tab:=addS 82 tHeadGet SPk2
theorem SPk3_ok:TabOk Tryz.prog SPk3:=addS_ok SPk2_ok (by kernel_rfl) (by (intro xs p v h hp w;unfold tHeadGet at h;(split at h) <;> first | (cases h;done) | (simp only [Option.some.injEq,Prod.mk.injEq] at h;obtain ⟨rfl,rfl⟩:=h;exact ref09_get _ (hp _ (List.mem_cons_self ..)) w)))
def SParts (P:Program) (fn:Func):Tab:=addI 74 P (onlyS P SPk3) noL fn SPk3
theorem SParts_ok:TabOk Tryz.prog (SParts Tryz.prog Tryz.f74):=addI_ok SPk3_ok (onlyS_ok SPk3_ok) follows Tryz.func74 (by kernel_rfl) (by kernel_rfl) (by kernel_rfl) (noloops (by kernel_rfl))
set_option maxRecDepth 100000 in
theorem pright_run (s:ByteArray) (x y:Int):runV Tryz.prog (onlyS Tryz.prog (SParts Tryz.prog Tryz.f74)) noL Tryz.f75 [.string s,.agg #[.int .i64 x,.int .i64 y]] =
 letI q5:=ByteArray.mk (Array.mk []);
 letI q6:=get s;
 letI q4:=(0:Int);
 letI q2:T Value:=.leaf (Value.bool false);
 letI q:T Value:=.need ((ByteArray.mk #[]).size≤5000∧(ByteArray.mk #[]).size≤5000) (.ite (covOk q5 q6.fst.5) (.leaf (Value.bool (decide (sumP q5 q5 q6.fst.5 x y=q4)))) q2);
 letI q0:=(4:Int) * q6.fst.words;
 letI q1:=(↑s.size:Int);
 letI q9:=(4:Int) * q6.fst.3;
 letI q3:=i64.wrap q9;
 letI q7:=s.extract q3.toNat q1.toNat;
 letI q8:=!decide (q6.snd.2=q4);
 letI p:=i64.wrap q0;
 .need (s.size≤9223372036854775807) (.ite q8 (.ite q8 q2 q) (.ite (decide (i64.wrap q9 > q1)) (.ite true q2 q) (.need (q4≤q4∧q4≤i64.wrap q0∧i64.wrap q0≤q1) (.need (q4≤i64.wrap q0∧i64.wrap q0≤q1∧q1≤q1) (.ite false q2 (.need ((s.extract (Int.toNat q4) p.toNat).size≤5000∧(s.extract p.toNat q1.toNat).size≤5000) (.ite (covOk q7 q6.fst.5) (.leaf (Value.bool (decide (sumP (s.extract 0 q3.toNat) q7 q6.fst.5 x y=q4)))) q2))))))):=by kernel_rfl
set_option maxRecDepth 100000 in
theorem rright_run (s:ByteArray) (x y:Int):runV Tryz.prog (onlyS Tryz.prog SPk3) noL Tryz.f83 [.string s,.agg #[.int .i64 x,.int .i64 y]] =
 letI q5:=get s;
 letI q:=(4:Int) * q5.fst.words;
 letI q0:=(↑s.size:Int);
 letI q6:=(4:Int) * q5.fst.3;
 letI q1:=i64.wrap q6;
 letI q2:=(0:Int);
 letI q3:T Value:=.leaf (Value.bool false);
 letI q4:=s.extract q1.toNat q0.toNat;
 letI q7:=i64.wrap q;
 .need (s.size≤9223372036854775807) (.ite (!decide (q5.snd.2=q2)) q3 (.ite (decide (i64.wrap q6 > q0)) q3 (.need (q2≤q2∧q2≤i64.wrap q∧i64.wrap q≤q0) (.need (q2≤i64.wrap q∧i64.wrap q≤q0∧q0≤q0) (.need ((s.extract (Int.toNat q2) q7.toNat).size≤5000∧(s.extract q7.toNat q0.toNat).size≤5000) (.ite (covOk q4 q5.fst.5) (.leaf (Value.bool (decide (sumP (s.extract 0 q1.toNat) q4 q5.fst.5 x y=q2)))) q3)))))):=by kernel_rfl
end Go.Proofs.YthacfgaacleaeaaGreatDoor
namespace Go.Proofs.YthacfgaacleaeaaGreatDoor
open Go.IntKind (i64 u32)
open Go.RowKit Sym Go.ChangeShapes Go.WideShapes Go.ChangeMaps Inet
def lenB (l:Bool):Nat:=if l=true then 16 else 12
theorem getB_ok {s:ByteArray} (h:(get s).2.2=0):∃ l,get s=(hd s l,s.extract (lenB l) s.size,0)∧Head.check (hd s l)=0∧lenB l≤s.size∧(hd s l).long=l:=by
  unfold get at h
  by_cases a:s.size < 12
  · rw [if_pos a] at h;cases h
  · rw [if_neg a] at h
    by_cases b:nu s 8 9 % 2=1
    · rw [if_pos b] at h
      by_cases c:s.size < 16
      · rw [if_pos c] at h;cases h
      · rw [if_neg c] at h
        by_cases d:nu s 8 9 / 32=0∧nu s 9 10=0
        · rw [if_pos d] at h
          by_cases e:Head.check (hd s true)=0
          · refine ⟨true,?_,e,by show 16≤_;omega,rfl⟩
            unfold get
            rw [if_neg a,if_pos b,if_neg c,if_pos d,if_pos e]
            rfl
          · rw [if_neg e] at h;exact absurd h e
        · rw [if_neg d] at h;cases h
    · rw [if_neg b] at h
      by_cases d:nu s 8 9 / 32=0
      · rw [if_pos d] at h
        by_cases e:Head.check (hd s false)=0
        · refine ⟨false,?_,e,by show 12≤_;omega,rfl⟩
          unfold get
          rw [if_neg a,if_neg b,if_pos d,if_pos e]
          rfl
        · rw [if_neg e] at h;exact absurd h e
      · rw [if_neg d] at h;cases h
theorem get_words {s:ByteArray} (h:(get s).2.2=0):0≤(get s).1.words∧(get s).1.words≤255:=by
  obtain ⟨l,e,hc,-⟩:=getB_ok h
  rw [e]
  exact (Head.check_ok hc).2.2.2.2.2.2.2.2.1
def restW (s:ByteArray):Nat:=(4 * (get s).1.words).toNat
def rightB (s:ByteArray) (x y:Int):Bool :=
  if (get s).2.2=0 then
    if (s.size:Int) < 4 * (get s).1.words then false
    else covOk (s.extract (restW s) s.size) (get s).1.cover && decide (sumP (s.extract 0 (restW s)) (s.extract (restW s) s.size) (get s).1.cover x y=0)
  else false
theorem right_leaf (a b:Bool):(a=true→Value.bool b=Value.bool (a && b))∧(a=false→Value.bool false=Value.bool (a && b)):=by cases a <;> cases b <;> simp
set_option maxRecDepth 100000 in
theorem packet_Right (s:ByteArray) (x y:Int) (hs:s.size≤4000) (w:World):Calls Tryz.prog 75 #[.string s,.agg #[.int .i64 x,.int .i64 y]] w fun e w'=>e = .returned (.bool (rightB s x y))∧Below w.heap.size w w':=by
  refine calls_runV (onlyS_ok SParts_ok) follows Tryz.func75 (by kernel_rfl) (by kernel_rfl) noL_ok (pright_run s x y) ?_ w
  unfold rightB
  refine t_need (by omega) (t_ite (fun h=>?_) fun h=>?_)
  · have e:¬ (get s).2.2=0:=fun e=>by rw [decide_eq_true e] at h;cases h
    rw [if_neg e]
    refine t_ite (fun _=>t_leaf rfl) fun h2=>?_
    rw [h] at h2;cases h2
  · have e:(get s).2.2=0:=by
      by_cases e:(get s).2.2=0
      · exact e
      · rw [decide_eq_false e] at h;cases h
    obtain ⟨w0,w1⟩:=get_words e
    have hw:i64.wrap (4 * (get s).1.words)=4 * (get s).1.words:=w64 _ (by omega) (by omega)
    have hr:(4 * (get s).1.words).toNat=restW s:=rfl
    have hn:((s.size:Nat):Int).toNat=s.size:=Int.toNat_natCast _
    rw [if_pos e,hw,hr,hn]
    refine t_ite (fun h=>?_) fun h=>?_
    · have h:=of_decide_eq_true h
      rw [if_pos h]
      exact t_ite (fun _=>t_leaf rfl) fun h2=>by cases h2
    · have h:=of_decide_eq_false h
      rw [if_neg (by omega)]
      refine t_need ⟨by omega,by omega,by omega⟩ (t_need ⟨by omega,by omega,by omega⟩ (t_ite (fun h2=>by cases h2) fun _=>t_need ⟨?_,?_⟩ (t_ite (fun h2=>t_leaf ((right_leaf _ _).1 h2)) fun h2=>t_leaf ((right_leaf _ _).2 h2))))
      · rw [ByteArray.size_extract];omega
      · rw [ByteArray.size_extract];omega
set_option maxRecDepth 100000 in
theorem ref10_Right (s:ByteArray) (x y:Int) (hs:s.size≤4000) (w:World):Calls Tryz.prog 83 #[.string s,.agg #[.int .i64 x,.int .i64 y]] w fun e w'=>e = .returned (.bool (rightB s x y))∧Below w.heap.size w w':=by
  refine calls_runV (onlyS_ok SPk3_ok) follows Tryz.func83 (by kernel_rfl) (by kernel_rfl) noL_ok (rright_run s x y) ?_ w
  unfold rightB
  refine t_need (by omega) (t_ite (fun h=>?_) fun h=>?_)
  · have e:¬ (get s).2.2=0:=fun e=>by rw [decide_eq_true e] at h;cases h
    rw [if_neg e]
    exact t_leaf rfl
  · have e:(get s).2.2=0:=by
      by_cases e:(get s).2.2=0
      · exact e
      · rw [decide_eq_false e] at h;cases h
    obtain ⟨w0,w1⟩:=get_words e
    have hw:i64.wrap (4 * (get s).1.words)=4 * (get s).1.words:=w64 _ (by omega) (by omega)
    have hr:(4 * (get s).1.words).toNat=restW s:=rfl
    have hn:((s.size:Nat):Int).toNat=s.size:=Int.toNat_natCast _
    rw [if_pos e,hw,hr,hn]
    refine t_ite (fun h=>?_) fun h=>?_
    · have h:=of_decide_eq_true h
      rw [if_pos h]
      exact t_leaf rfl
    · have h:=of_decide_eq_false h
      rw [if_neg (by omega)]
      refine t_need ⟨by omega,by omega,by omega⟩ (t_need ⟨by omega,by omega,by omega⟩ (t_need ⟨?_,?_⟩ (t_ite (fun h2=>t_leaf ((right_leaf _ _).1 h2)) fun h2=>t_leaf ((right_leaf _ _).2 h2))))
      · rw [ByteArray.size_extract];omega
      · rw [ByteArray.size_extract];omega
def tRight:List Value→Option (List Prop×Value) | [.string s,.agg ⟨[.int .i64 x,.int .i64 y]⟩]=>some ([s.size≤4000],.bool (rightB s x y)) | _=>none
def SGet (P:Program) (fParts fBegun:Func):Tab:=addS 75 tRight <| addS 83 tRight <| addI 77 P (onlyS P noS) noL fBegun <| SParts P fParts
theorem SGet_ok:TabOk Tryz.prog (SGet Tryz.prog Tryz.f74 Tryz.f77):=by
  refine addS_ok (addS_ok (addI_ok SParts_ok (onlyS_ok noS_ok) follows Tryz.func77 (by kernel_rfl) (by kernel_rfl) (by kernel_rfl) (noloops (by kernel_rfl))) (by kernel_rfl) ?_) (by kernel_rfl) ?_
  · (intro xs p v h hp w;unfold tRight at h;(split at h) <;> first | (cases h;done) | (simp only [Option.some.injEq,Prod.mk.injEq] at h;obtain ⟨rfl,rfl⟩:=h;exact ref10_Right _ _ _ (hp _ (List.mem_cons_self ..)) w))
  · (intro xs p v h hp w;unfold tRight at h;(split at h) <;> first | (cases h;done) | (simp only [Option.some.injEq,Prod.mk.injEq] at h;obtain ⟨rfl,rfl⟩:=h;exact packet_Right _ _ _ (hp _ (List.mem_cons_self ..)) w))
def FGt0 (P:Program) (fNew:Func):LTab:=addT 76 (inl P (onlyS P noS) noL fNew) <| addF 93 fCutNum <| addF 80 fCutRest <| addF 85 fCutNum <| addF 87 fCutRest <| addF 79 fGet <| addF 86 fGetR FPk1
theorem FGt0_ok:LOk Tryz.prog (FGt0 Tryz.prog Tryz.f76) :=
  addT_ok (addF_ok (addF_ok (addF_ok (addF_ok (addF_ok (addF_ok FPk1_ok (by kernel_rfl) fGetR_ok) (by kernel_rfl) fGet_ok) (by kernel_rfl) fRest01_ok) (by kernel_rfl) fNum01_ok) (by kernel_rfl) fCutRest_ok) (by kernel_rfl) fCutNum_ok) (by kernel_rfl) (inl_ok (onlyS_ok noS_ok) follows Tryz.func76 (by kernel_rfl) (by kernel_rfl) (noloops (by kernel_rfl)))
abbrev fsGt0:List Nat:=[93,80,76,85,87,79,86]++fsPk1
abbrev CGt0 (P:Program) (fParts fBegun fNew:Func):Cfg:=both P (SGet P fParts fBegun) (FGt0 P fNew) fsGt0
theorem CGt0_ok:CfgOk Tryz.prog (CGt0 Tryz.prog Tryz.f74 Tryz.f77 Tryz.f76):=both_ok SGet_ok FGt0_ok
end Go.Proofs.YthacfgaacleaeaaGreatDoor
namespace Go.Proofs.YthacfgaacleaeaaGreatDoor
open Go.IntKind (i64 u32)
open Go.RowKit Sym Go.ChangeShapes Go.WideShapes Go.ChangeMaps Inet
set_option maxRecDepth 100000 in
theorem pread_run (p:Pk) (b:ByteArray):runF Tryz.prog (CGt0 Tryz.prog Tryz.f74 Tryz.f77 Tryz.f76) noL Tryz.f78 (Tryz.f78.body.getD .skip) [.ptr 0 0,.ptr 1 0] [.own [.v (.int .i64 p.kind),.v (.bool p.long),.v (.int .i64 p.src),.v (.int .i64 p.dst),.v (.int .i64 p.ccval),.v (.int .i64 p.cover),.v (.int .i64 p.seq),.v (.int .i64 p.ack),.v (.int .i64 p.service),.v (.int .i64 p.code),.v (.int .i64 p.detail),.v (.slice none 0 0),.v (.string p.data)],.own [.v (.string b),.v (.int .i64 0),.v (.int .i64 0)]] =
 letI q0:=(0:Int);
 letI q1:=(1:Int);
 letI p2:=(7:Int);
 letI q3:=(↑b.size:Int);
 letI z2:=q0=q0∧q0≤q0∧q1≤q1∧q1≤p2∧q0+q1≤q3∧b.size≤1000000;
 letI q4:=(3:Int);
 letI z0:=q0=q0∧q0≤q0+q1∧q1≤q4∧q4≤p2∧q0+q1+q4≤q3∧b.size≤1000000;
 letI y8:=served p.1;
 letI p7:=(4:Int);
 letI z3:=decide (p.1=p2);
 letI p6:=SV.v (Value.bool (decide (valU (b.extract 0 1)=q0)));
 letI q6:SV:=.v (.int .i64 p.1);
 letI q5:=SV.v (Value.bool p.2);
 letI q7:SV:=.v (.int .i64 p.3);
 letI q8:SV:=.v (.int .i64 p.4);
 letI q9:SV:=.v (.int .i64 p.5);
 letI p0:SV:=.v (.int .i64 p.6);
 letI p1:SV:=.v (.int .i64 p.7);
 letI p8:SV:=.v (.int .i64 (valU (b.extract 1 4)));
 letI y4:SV:=.v (.int .i64 (valU (b.extract 4 8)));
 letI y3:SV:=.v (.int .i64 (valU (b.extract 8 9)));
 letI y2:SV:=.v (.int .i64 (valU (b.extract 9 12)));
 letI q2:=SV.v (Value.slice none 0 0);
 letI p4:SV:=.v (.string p.12);
 letI p9:SV:=.v (.string b);
 letI p3:SV:=.v (.int .i64 0);
 letI z9:Blk:=.own [p9,.v (.int .i64 12),p3];
 letI z6:SV:=.v (.int .i64 p.10);
 letI z7:SV:=.v (.int .i64 p.11);
 letI z5:Blk:=.own [p9,.v (.int .i64 8),p3];
 letI z8:SV:=.v (.int .i64 p.9);
 letI y5:SV:=.v (.int .i64 (valU (b.extract 4 5)));
 letI y6:SV:=.v (.int .i64 (valU (b.extract 5 8)));
 letI y:Blk:=.own [p9,.v (.int .i64 4),p3];
 letI y0:SV:=.v (.int .i64 p.8);
 letI y7:SV:=.v (.int .i64 (valU (b.extract 0 4)));
 letI q:T (SV×List Blk):=.ite (Head.acks p.1) (.need z2 (.need z0 (.ite y8 (.need (q0=q0∧q0≤q0+q1+q4∧q1≤p7∧p7≤p2∧q0+q1+q4+p7≤q3∧b.size≤1000000) (.ite z3 (.need (q0=q0∧q0≤q0+q1+q4+p7∧q1≤q1∧q1≤p2∧q0+q1+q4+p7+q1≤q3∧b.size≤1000000) (.need (q0=q0∧q0≤q0+q1+q4+p7+q1∧q1≤q4∧q4≤p2∧q0+q1+q4+p7+q1+q4≤q3∧b.size≤1000000) (.leaf (p6,[.own [q6,q5,q7,q8,q9,p0,p1,p8,y4,y3,y2,q2,p4],z9])))) (.leaf (p6,[.own [q6,q5,q7,q8,q9,p0,p1,p8,y4,z6,z7,q2,p4],z5])))) (.ite z3 (.need (q0=q0∧q0≤q0+q1+q4∧q1≤q1∧q1≤p2∧q0+q1+q4+q1≤q3∧b.size≤1000000) (.need (q0=q0∧q0≤q0+q1+q4+q1∧q1≤q4∧q4≤p2∧q0+q1+q4+q1+q4≤q3∧b.size≤1000000) (.leaf (p6,[.own [q6,q5,q7,q8,q9,p0,p1,p8,z8,y5,y6,q2,p4],z5])))) (.leaf (p6,[.own [q6,q5,q7,q8,q9,p0,p1,p8,z8,z6,z7,q2,p4],y])))))) (.ite y8 (.need (q0=q0∧q0≤q0∧q1≤p7∧p7≤p2∧q0+p7≤q3∧b.size≤1000000) (.ite z3 (.need (q0=q0∧q0≤q0+p7∧q1≤q1∧q1≤p2∧q0+p7+q1≤q3∧b.size≤1000000) (.need (q0=q0∧q0≤q0+p7+q1∧q1≤q4∧q4≤p2∧q0+p7+q1+q4≤q3∧b.size≤1000000) (.leaf (SV.tt,[.own [q6,q5,q7,q8,q9,p0,p1,y0,y7,y5,y6,q2,p4],z5])))) (.leaf (SV.tt,[.own [q6,q5,q7,q8,q9,p0,p1,y0,y7,z6,z7,q2,p4],y])))) (.ite z3 (.need z2 (.need z0 (.leaf (SV.tt,[.own [q6,q5,q7,q8,q9,p0,p1,y0,z8,.v (.int .i64 (valU (b.extract 0 1))),p8,q2,p4],y])))) (.leaf (SV.tt,[.own [q6,q5,q7,q8,q9,p0,p1,y0,z8,z6,z7,q2,p4],.own [p9,p3,p3]]))));
 letI p5:=SV.v (Value.bool (decide (valU (b.extract 0 2)=q0)));
 letI z:=(2:Int);
 letI z1:SV:=.v (.int .i64 (valU (b.extract 2 8)));
 letI z4:=(6:Int);
 letI y1:SV:=.v (.int .i64 (valU (b.extract 8 12)));
 .ite (Head.acks p.1) (.ite p.2 (.need (q0=q0∧q0≤q0∧q1≤z∧z≤p2∧q0+z≤q3∧b.size≤1000000) (.need (q0=q0∧q0≤q0+z∧q1≤z4∧z4≤p2∧q0+z+z4≤q3∧b.size≤1000000) (.ite y8 (.need (q0=q0∧q0≤q0+z+z4∧q1≤p7∧p7≤p2∧q0+z+z4+p7≤q3∧b.size≤1000000) (.ite z3 (.need (q0=q0∧q0≤q0+z+z4+p7∧q1≤q1∧q1≤p2∧q0+z+z4+p7+q1≤q3∧b.size≤1000000) (.need (q0=q0∧q0≤q0+z+z4+p7+q1∧q1≤q4∧q4≤p2∧q0+z+z4+p7+q1+q4≤q3∧b.size≤1000000) (.leaf (p5,[.own [q6,q5,q7,q8,q9,p0,p1,z1,y1,.v (.int .i64 (valU (b.extract 12 13))),.v (.int .i64 (valU (b.extract 13 16))),q2,p4],.own [p9,.v (.int .i64 16),p3]])))) (.leaf (p5,[.own [q6,q5,q7,q8,q9,p0,p1,z1,y1,z6,z7,q2,p4],z9])))) (.ite z3 (.need (q0=q0∧q0≤q0+z+z4∧q1≤q1∧q1≤p2∧q0+z+z4+q1≤q3∧b.size≤1000000) (.need (q0=q0∧q0≤q0+z+z4+q1∧q1≤q4∧q4≤p2∧q0+z+z4+q1+q4≤q3∧b.size≤1000000) (.leaf (p5,[.own [q6,q5,q7,q8,q9,p0,p1,z1,z8,y3,y2,q2,p4],z9])))) (.leaf (p5,[.own [q6,q5,q7,q8,q9,p0,p1,z1,z8,z6,z7,q2,p4],z5])))))) q) q:=by kernel_rfl
end Go.Proofs.YthacfgaacleaeaaGreatDoor
namespace Go.Proofs.YthacfgaacleaeaaGreatDoor
open Go.IntKind (i64 u32)
open Go.RowKit Sym Go.ChangeShapes Go.WideShapes Go.ChangeMaps Inet
def nAck (p:Pk):Nat:=if Head.acks p.kind=true then (if p.long=true then 8 else 4) else 0
def nSrv (p:Pk):Nat:=if served p.kind=true then 4 else 0
def nRst (p:Pk):Nat:=if p.kind=7 then 4 else 0
def nFld (p:Pk):Nat:=nAck p+nSrv p+nRst p
def noughtR (p:Pk) (b:ByteArray):Int:=if Head.acks p.kind=true then (if p.long=true then valU (b.extract 0 2) else valU (b.extract 0 1)) else 0
def fldR (p:Pk) (b:ByteArray):Pk :=
  { p with
    ack:=if Head.acks p.kind=true then (if p.long=true then valU (b.extract 2 8) else valU (b.extract 1 4)) else p.ack
    service:=if served p.kind=true then valU (b.extract (nAck p) (nAck p+4)) else p.service
    code:=if p.kind=7 then valU (b.extract (nAck p+nSrv p) (nAck p+nSrv p+1)) else p.code
    detail:=if p.kind=7 then valU (b.extract (nAck p+nSrv p+1) (nAck p+nSrv p+4)) else p.detail }
def Pk.cells (p:Pk) (o:SV):List SV:=[.v (.int .i64 p.kind),.v (.bool p.long),.v (.int .i64 p.src),.v (.int .i64 p.dst),.v (.int .i64 p.ccval),.v (.int .i64 p.cover),.v (.int .i64 p.seq),.v (.int .i64 p.ack),.v (.int .i64 p.service),.v (.int .i64 p.code),.v (.int .i64 p.detail),o,.v (.string p.data)]
def fReadF:List SV→List Blk→Option (T (SV×List Blk))
  | [.ptr 0 0,.ptr 1 0],[.own [.v (.int .i64 a),.v (.bool b),.v (.int .i64 c),.v (.int .i64 d),.v (.int .i64 e),.v (.int .i64 f),.v (.int .i64 g),.v (.int .i64 h),.v (.int .i64 i),.v (.int .i64 j),.v (.int .i64 k),.v (.slice none 0 0),.v (.string m)],.own [.v (.string t),.v (.int .i64 0),.v (.int .i64 0)]] =>
    some (.need (nFld ⟨a,b,c,d,e,f,g,h,i,j,k,m⟩≤t.size∧t.size≤1000000) (.ite (Head.acks a) (.leaf (.v (.bool (decide (noughtR ⟨a,b,c,d,e,f,g,h,i,j,k,m⟩ t=0))),[.own ((fldR ⟨a,b,c,d,e,f,g,h,i,j,k,m⟩ t).cells (.v (.slice none 0 0))),.own [.v (.string t),.v (.int .i64 (nFld ⟨a,b,c,d,e,f,g,h,i,j,k,m⟩:Nat)),.v (.int .i64 0)]])) (.leaf (.tt,[.own ((fldR ⟨a,b,c,d,e,f,g,h,i,j,k,m⟩ t).cells (.v (.slice none 0 0))),.own [.v (.string t),.v (.int .i64 (nFld ⟨a,b,c,d,e,f,g,h,i,j,k,m⟩:Nat)),.v (.int .i64 0)]]))))
  | _,_=>none
set_option maxRecDepth 100000 in
theorem fReadF_ok:EntryOk Tryz.prog 78 fReadF:=by
  intro ss H t ht bs B w vs hm hv Qs hq
  unfold fReadF at ht
  split at ht
  · rename_i a b c d e f g h i j k m t
    simp only [Option.some.injEq] at ht
    subst ht
    obtain ⟨⟨hn,ht⟩,hq⟩:=hq
    have run:=pread_run ⟨a,b,c,d,e,f,g,h,i,j,k,m⟩ t
    refine inl_ok CGt0_ok follows Tryz.func78 (by kernel_rfl) (by kernel_rfl) (noloops (by kernel_rfl)) _ _ _ rfl bs B w vs hm hv Qs (by
      rw [show runF Tryz.prog (CGt0 Tryz.prog Tryz.f74 Tryz.f77 Tryz.f76) noL Tryz.f78 (Tryz.f78.body.getD .skip) _ _=_ from run]
      unfold nFld nAck nSrv nRst at hn
      unfold fldR noughtR nFld nAck nSrv nRst Pk.cells at hq
      dsimp only at hn hq ⊢
      generalize Head.acks a=x at *
      generalize served a=y at *
      clear run hm hv
      by_cases h7:a=7
      · simp only [if_pos h7] at hn hq
        rw [decide_eq_true h7]
        cases x <;> cases y <;> cases b <;> (simp only [if_true,if_false,Bool.false_eq_true] at hn hq) <;>
          (repeat' (first | (with_reducible refine t_need ?_ ?_) | (with_reducible refine t_ite ?_ ?_;all_goals intro h;all_goals (first | (simp only [Bool.false_eq_true,Bool.true_eq_false] at h;done) | skip)) | (with_reducible refine t_leaf ?_))) <;>
          first | exact hq.1 rfl | exact hq.2 rfl | omega | skip
      · simp only [if_neg h7] at hn hq
        rw [decide_eq_false h7]
        cases x <;> cases y <;> cases b <;> (simp only [if_true,if_false,Bool.false_eq_true] at hn hq) <;>
          (repeat' (first | (with_reducible refine t_need ?_ ?_) | (with_reducible refine t_ite ?_ ?_;all_goals intro h;all_goals (first | (simp only [Bool.false_eq_true,Bool.true_eq_false] at h;done) | skip)) | (with_reducible refine t_leaf ?_))) <;>
          first | exact hq.1 rfl | exact hq.2 rfl | omega | skip)
  · cases ht
end Go.Proofs.YthacfgaacleaeaaGreatDoor
namespace Go.Proofs.YthacfgaacleaeaaGreatDoor
open Go.IntKind (i64 u32)
open Go.RowKit Sym Go.ChangeShapes Go.WideShapes Go.ChangeMaps Inet
def partsE (s:ByteArray):Int:=if (get s).2.2=0 then (if (s.size:Int) < 4 * (get s).1.words then 1 else 0) else (get s).2.2
def aheadS (s:ByteArray):ByteArray:=if partsE s=0 then s.extract 0 (restW s) else ⟨⟨[]⟩⟩
def dataS (s:ByteArray):ByteArray:=if partsE s=0 then s.extract (restW s) s.size else ⟨⟨[]⟩⟩
def hG (s:ByteArray):Head.H:=(get s).1
set_option maxRecDepth 100000 in
theorem parts_run (s:ByteArray):runV Tryz.prog (onlyS Tryz.prog SPk3) noL Tryz.f74 [.string s] =
 letI q3:=get s;
 letI q:=Value.agg (Array.mk [Value.int i64 q3.fst.1,Value.int i64 q3.fst.2,Value.int i64 q3.fst.3,Value.int i64 q3.fst.4,Value.int i64 q3.fst.5,Value.int i64 q3.fst.6,Value.int i64 q3.fst.7,Value.bool q3.fst.8,Value.int i64 q3.fst.9]);
 letI q0:=Value.string (ByteArray.mk (Array.mk []));
 letI q1:=(4:Int) * q3.fst.words;
 letI q2:=(↑s.size:Int);
 letI q4:=(4:Int) * q3.fst.3;
 letI q5:=(0:Int);
 letI q6:=i64.wrap q4;
 .need (s.size≤9223372036854775807) (.ite (!decide (q3.snd.2=q5)) (.leaf (Value.tuple (Array.mk [q,q0,q0,Value.int i64 q3.snd.2]))) (.ite (decide (i64.wrap q4 > q2)) (.leaf (Value.tuple (Array.mk [q,q0,q0,Value.int i64 1]))) (.need (q5≤q5∧q5≤i64.wrap q1∧i64.wrap q1≤q2) (.need (q5≤i64.wrap q1∧i64.wrap q1≤q2∧q2≤q2) (.leaf (Value.tuple (Array.mk [q,Value.string (s.extract 0 q6.toNat),Value.string (s.extract q6.toNat q2.toNat),Value.int i64 0]))))))):=by kernel_rfl
set_option maxRecDepth 100000 in
theorem packet_parts (s:ByteArray) (hs:s.size≤4000) (w:World):Calls Tryz.prog 74 #[.string s] w fun e w'=>e = .returned (.tuple #[(hG s).v,.string (aheadS s),.string (dataS s),.int .i64 (partsE s)])∧Below w.heap.size w w':=by
  refine calls_runV (onlyS_ok SPk3_ok) follows Tryz.func74 (by kernel_rfl) (by kernel_rfl) noL_ok (parts_run s) ?_ w
  unfold aheadS dataS hG
  refine t_need (by omega) (t_ite (fun h=>?_) fun h=>?_)
  · have e:¬ (get s).2.2=0:=fun e=>by rw [decide_eq_true e] at h;cases h
    have p1:partsE s=(get s).2.2:=if_neg e
    rw [p1,if_neg e,if_neg e]
    exact t_leaf rfl
  · have e:(get s).2.2=0:=by
      by_cases e:(get s).2.2=0
      · exact e
      · rw [decide_eq_false e] at h;cases h
    obtain ⟨w0,w1⟩:=get_words e
    have hw:i64.wrap (4 * (get s).1.words)=4 * (get s).1.words:=w64 _ (by omega) (by omega)
    have hr:(4 * (get s).1.words).toNat=restW s:=rfl
    have hn:((s.size:Nat):Int).toNat=s.size:=Int.toNat_natCast _
    rw [hw,hr,hn]
    refine t_ite (fun h=>?_) fun h=>?_
    · have h:(s.size:Int) < 4 * (get s).1.words:=of_decide_eq_true h
      have p1:partsE s=1:=by unfold partsE;rw [if_pos e,if_pos h]
      rw [p1,if_neg (by decide),if_neg (by decide)]
      exact t_leaf rfl
    · have h:¬ (s.size:Int) < 4 * (get s).1.words:=of_decide_eq_false h
      have p1:partsE s=0:=by unfold partsE;rw [if_pos e,if_neg h]
      rw [p1,if_pos rfl,if_pos rfl]
      exact t_need ⟨by omega,by omega,by omega⟩ (t_need ⟨by omega,by omega,by omega⟩ (t_leaf rfl))
def tParts:List Value→Option (List Prop×Value) | [.string s]=>some ([s.size≤4000],.tuple #[(hG s).v,.string (aheadS s),.string (dataS s),.int .i64 (partsE s)]) | _=>none
def begunN (l:Bool):Int:=if l=true then 16 else 12
set_option maxRecDepth 100000 in
theorem begun_run (h:Head.H):runV Tryz.prog (onlyS Tryz.prog noS) noL Tryz.f77 [h.v] = .ite h.8 (.leaf (Value.int i64 16)) (.leaf (Value.int i64 12)):=by kernel_rfl
theorem packet_begun (h:Head.H) (w:World):Calls Tryz.prog 77 #[h.v] w fun e w'=>e = .returned (.int .i64 (begunN h.long))∧Below w.heap.size w w':=by
  refine calls_runV (onlyS_ok noS_ok) follows Tryz.func77 (by kernel_rfl) (by kernel_rfl) noL_ok (begun_run h) ?_ w
  unfold begunN
  exact t_ite (fun e=>t_leaf (by rw [if_pos e])) fun e=>t_leaf (by rw [if_neg (by rw [e];decide)])
def tBegun:List Value→Option (List Prop×Value) | [.agg ⟨[.int .i64 a,.int .i64 b,.int .i64 c,.int .i64 d,.int .i64 e,.int .i64 f,.int .i64 g,.bool h,.int .i64 i]⟩]=>some ([],.int .i64 (begunN h)) | _=>none
def SGet1:Tab:=addS 74 tParts <| addS 77 tBegun <| addS 75 tRight <| addS 83 tRight SPk3
theorem SGet1_ok:TabOk Tryz.prog SGet1:=by
  refine addS_ok (addS_ok (addS_ok (addS_ok SPk3_ok (by kernel_rfl) ?_) (by kernel_rfl) ?_) (by kernel_rfl) ?_) (by kernel_rfl) ?_
  · (intro xs p v h hp w;unfold tRight at h;(split at h) <;> first | (cases h;done) | (simp only [Option.some.injEq,Prod.mk.injEq] at h;obtain ⟨rfl,rfl⟩:=h;exact ref10_Right _ _ _ (hp _ (List.mem_cons_self ..)) w))
  · (intro xs p v h hp w;unfold tRight at h;(split at h) <;> first | (cases h;done) | (simp only [Option.some.injEq,Prod.mk.injEq] at h;obtain ⟨rfl,rfl⟩:=h;exact packet_Right _ _ _ (hp _ (List.mem_cons_self ..)) w))
  · (intro xs p v h hp w;unfold tBegun at h;(split at h) <;> first | (cases h;done) | (simp only [Option.some.injEq,Prod.mk.injEq] at h;obtain ⟨rfl,rfl⟩:=h;exact packet_begun ⟨_,_,_,_,_,_,_,_,_⟩ w))
  · (intro xs p v h hp w;unfold tParts at h;(split at h) <;> first | (cases h;done) | (simp only [Option.some.injEq,Prod.mk.injEq] at h;obtain ⟨rfl,rfl⟩:=h;exact packet_parts _ (hp _ (List.mem_cons_self ..)) w))
def fReadG:List SV→List Blk→Option (T (SV×List Blk))
  | [.ptr 0 0,.ptr 1 0],[.own [.v (.int .i64 a),.v (.bool b),.v (.int .i64 c),.v (.int .i64 d),.v (.int .i64 e),.v (.int .i64 f),.v (.int .i64 g),.v (.int .i64 h),.v (.int .i64 i),.v (.int .i64 j),.v (.int .i64 k),.v (.slice none 0 0),.v (.string m)],.own [.v (.string t),.v (.int .i64 0),.v (.int .i64 0)]] =>
    some (.need (nFld ⟨a,b,c,d,e,f,g,h,i,j,k,m⟩≤t.size∧t.size≤1000000) (.leaf (.v (.bool (decide (noughtR ⟨a,b,c,d,e,f,g,h,i,j,k,m⟩ t=0))),[.own ((fldR ⟨a,b,c,d,e,f,g,h,i,j,k,m⟩ t).cells (.v (.slice none 0 0))),.own [.v (.string t),.v (.int .i64 (nFld ⟨a,b,c,d,e,f,g,h,i,j,k,m⟩:Nat)),.v (.int .i64 0)]])))
  | _,_=>none
theorem fReadG_ok:EntryOk Tryz.prog 78 fReadG:=by
  intro ss H t ht bs B w vs hm hv Qs hq
  unfold fReadG at ht
  split at ht
  · rename_i a b c d e f g h i j k m t
    simp only [Option.some.injEq] at ht
    subst ht
    obtain ⟨hn,hq⟩:=hq
    have hq:=hq
    refine (fReadF_ok _ _ _ rfl bs B w vs hm hv (fun r=>∃ v,Qs (.v (.bool v),r.2)∧(r.1 = .v (.bool v) ∨ (r.1 = .tt∧v=true))) ?_).mono ?_
    · refine ⟨hn,fun _=>⟨_,hq,.inl rfl⟩,fun ha=>⟨_,hq,.inr ⟨rfl,?_⟩⟩⟩
      unfold noughtR
      have:¬ Head.acks a=true:=by rw [ha];decide
      dsimp only
      rw [if_neg this];rfl
    · rintro e w' ⟨s1,H1,B1,x,⟨v,hQ,hr⟩,hp,he,hx,hm'⟩
      refine ⟨_,H1,B1,x,hQ,hp,he,?_,hm'⟩
      rw [← hx]
      rcases hr with hr | ⟨hr,rfl⟩ <;> (dsimp only at hr;subst hr;rfl)
  · cases ht
def FGt2 (P:Program) (fNew:Func):LTab:=addF 78 fReadG (FGt0 P fNew)
theorem FGt2_ok:LOk Tryz.prog (FGt2 Tryz.prog Tryz.f76):=addF_ok FGt0_ok (by kernel_rfl) fReadG_ok
abbrev CGt2 (P:Program) (fNew:Func):Cfg:=both P SGet1 (FGt2 P fNew) (78 :: fsGt0)
theorem CGt2_ok:CfgOk Tryz.prog (CGt2 Tryz.prog Tryz.f76):=both_ok SGet1_ok FGt2_ok
set_option maxRecDepth 100000 in
theorem pget2_run (s:ByteArray) (x y:Int):runF Tryz.prog (CGt2 Tryz.prog Tryz.f76) noL Tryz.f40 (Tryz.f40.body.getD .skip) [.v (.string s),.v (.agg #[.int .i64 x,.int .i64 y])] [] =
 letI p7:=hG s;
 letI p6:=(0:Int);
 letI q5:=Pk.mk p7.7 p7.8 p7.1 p7.2 p7.4 p7.5 p7.9 p6 p6 p6 p6 (dataS s);
 letI p8:=(↑(aheadS s).size:Int);
 letI q3:=(aheadS s).extract (begunN p7.8).toNat p8.toNat;
 letI q:=fldR q5 q3;
 letI p1:Blk:=.own [.v (.int .i64 x),.v (.int .i64 y)];
 letI p0:Value:=.int .i64 0;
 letI z2:=Value.slice none 0 0;
 letI z:=ByteArray.mk (Array.mk []);
 letI q6:Blk:=.own [.v p0,SV.v (Value.bool false),.v p0,.v p0,.v p0,.v p0,.v p0,.v p0,.v p0,.v p0,.v p0,SV.v z2,.v (.string z)];
 letI q4:Blk:=.own [.c p0,SV.c (Value.bool false),.c p0,.c p0,.c p0,.c p0,.c p0,.c p0,.c p0,.c p0,.c p0,SV.c z2,SV.c (Value.string z)];
 letI q7:Blk:=.own [.v (.int .i64 p7.1),.v (.int .i64 p7.2),.v (.int .i64 p7.3),.v (.int .i64 p7.4),.v (.int .i64 p7.5),.v (.int .i64 p7.6),.v (.int .i64 p7.7),SV.v (Value.bool p7.8),.v (.int .i64 p7.9)];
 letI z3:=SV.v (Value.bool q.2);
 letI q9:List SV:=[.v (.int .i64 q.1),z3,.v (.int .i64 q.3),.v (.int .i64 q.4),.v (.int .i64 q.5),.v (.int .i64 q.6),.v (.int .i64 q.7),.v (.int .i64 q.8),.v (.int .i64 q.9),.v (.int .i64 q.10),.v (.int .i64 q.11),SV.ref 7,.v (.string q.12)];
 letI p3:Blk:=.own [.v (.string q3),.v (.int .i64 (↑q3.size:Int)),.v p0];
 letI p9:=(↑(nFld q5):Int);
 letI p:=q3.extract p9.toNat q3.size;
 letI z0:=Blk.vec true 70 2 (optsOf p).length (opCells (optsOf p));
 letI q0:List Blk:=[p1,q6,q4,q7,.own q9,p3,.own [SV.ref 7],z0];
 letI p2:=Value.int i64 0;
 letI q1:=Value.agg (Array.mk [p2,Value.bool false,p2,p2,p2,p2,p2,p2,p2,p2,p2,Value.slice none 0 0,Value.string z]);
 letI q8:Blk:=.own [.v (.int .i64 q.1),z3,.v (.int .i64 q.3),.v (.int .i64 q.4),.v (.int .i64 q.5),.v (.int .i64 q.6),.v (.int .i64 q.7),.v (.int .i64 q.8),.v (.int .i64 q.9),.v (.int .i64 q.10),.v (.int .i64 q.11),SV.v z2,.v (.string q.12)];
 letI q2:List Blk:=[p1,q6,q4,q7,q8,p3];
 letI p4:=SV.v (Value.tuple (Array.mk [q1,Value.int i64 11]));
 letI p5:=SV.v (Value.tuple (Array.mk [q1,Value.int i64 4]));
 letI z1:=decide ((↑q.12.size:Int) > (200:Int));
 .ite (decide ((↑s.size:Int) > (700:Int))) (.leaf (p4,[p1,q6,q4])) (.need (s.size≤4000) (.ite (!decide (partsE s=p6)) (.leaf (SV.v (Value.tuple (Array.mk [q1,Value.int i64 (partsE s)])),[p1,q6,q4,q7])) (.need (s.size≤4000) (.ite (!rightB s x y) (.leaf (SV.v (Value.tuple (Array.mk [q1,Value.int i64 5])),[p1,q6,q4,q7])) (.need (p6≤begunN p7.8∧begunN p7.8≤p8∧p8≤p8) (.need (nFld q5≤q3.size∧q3.size≤1000000) (.ite (!decide (noughtR q5 q3=p6)) (.leaf (p5,[p1,q6,q4,q7,q8,.own [.v (.string q3),.v (.int .i64 p9),.v p0]])) (.need (p6=p6∧p6≤p9∧p9≤(↑q3.size:Int)∧q3.size≤1000000) (.need (p.size≤1000) (.ite (decide (getE p=p6)) (.ite false (.leaf (SV.v (Value.tuple (Array.mk [q1,p2])),q0)) (.ite z1 (.leaf (p4,q0)) (.need True (.ite (spareP q) (.leaf (p5,q0)) (.leaf (SV.tup [SV.agg (List.take 13 (List.drop 0 q9)),.c p0],[p1,.own q9,q4,q7,.own q9,p3,.own [SV.ref 7],z0])))))) (.ite (!decide (getE p=p6)) (.leaf (SV.v (Value.tuple (Array.mk [q1,Value.int i64 (getE p)])),q2)) (.ite z1 (.leaf (p4,q2)) (.need True (.ite (spareP q) (.leaf (p5,q2)) (.leaf (SV.v (Value.tuple (Array.mk [Value.agg (Array.mk [Value.int i64 q.1,Value.bool q.2,Value.int i64 q.3,Value.int i64 q.4,Value.int i64 q.5,Value.int i64 q.6,Value.int i64 q.7,Value.int i64 q.8,Value.int i64 q.9,Value.int i64 q.10,Value.int i64 q.11,Value.slice none 0 0,Value.string q.12]),p2])),[p1,q8,q4,q7,q8,p3])))))))))))))))):=by kernel_rfl
theorem mem_pick {w0 w:World} {bs:List Nat} {H:List Blk} {B:List Value} (h:Mem w0 bs H B w) {k:Nat} {o:Bool} {e:TypeId} {sz n:Nat} {xs:List Value} {u:Value} (hk:H[k]?=some (.vec o e sz n xs)) (hu:B[k]?=some u):Mem w0 bs [.vec o e sz n xs] [u] w:=by
  have hs:=h.sat.blk k _ u hk hu
  have one:∀ j b,ExBlk [.vec o e sz n xs] [u] j b→j=0∧ExBlk H B k b:=by
    rintro j b ⟨x,v,g1,g2,g3,g4⟩
    match j with
    | 0 =>
      simp only [List.getElem?_cons_zero,Option.some.injEq] at g1 g3
      subst g1 g3
      exact ⟨rfl,_,_,hk,g2,hu,g4⟩
    | j+1=>simp at g1
  refine ⟨⟨rfl,fun j x v h1 h2=>?_,fun i j b h1 h2=>(one _ _ h1).1.trans (one _ _ h2).1.symm,fun i j b h1 h2=>?_⟩,h.keeps,fun j b h1=>h.good k b (one _ _ h1).2⟩
  · match j with
    | 0 =>
      simp only [List.getElem?_cons_zero,Option.some.injEq] at h1 h2
      subst h1 h2
      exact hs
    | j+1=>simp at h1
  · obtain ⟨m,z,f,v,g1,-⟩:=h2
    match j with
    | 0=>simp at g1
    | j+1=>simp at g1
def bodyS (s:ByteArray):ByteArray:=(aheadS s).extract (begunN (hG s).long).toNat (aheadS s).size
def pk0 (s:ByteArray):Pk:=⟨(hG s).kind,(hG s).long,(hG s).src,(hG s).dst,(hG s).ccval,(hG s).cover,(hG s).seq,0,0,0,0,dataS s⟩
def pkG (s:ByteArray):Pk:=fldR (pk0 s) (bodyS s)
def optS (s:ByteArray):ByteArray:=(bodyS s).extract (nFld (pk0 s)) (bodyS s).size
def errG (s:ByteArray) (x y:Int):Int :=
  if (s.size:Int) > 700 then 11 else if partsE s=0 then (if rightB s x y=true then (if noughtR (pk0 s) (bodyS s)=0 then (if getE (optS s)=0 then (if ((pkG s).data.size:Int) > 200 then 11 else if spareP (pkG s)=true then 4 else 0) else getE (optS s)) else 4) else 5) else partsE s
def nonePk:Pk:=⟨0,false,0,0,0,0,0,0,0,0,0,⟨⟨[]⟩⟩⟩
theorem partsE_ok {s:ByteArray} (h:partsE s=0):(get s).2.2=0∧4 * (hG s).words≤s.size∧(aheadS s).size=restW s:=by
  have ha:aheadS s=s.extract 0 (restW s):=if_pos h
  unfold partsE at h
  split at h
  · rename_i e
    split at h
    · cases h
    · rename_i h2
      have:=get_words e
      refine ⟨e,by unfold hG;omega,?_⟩
      rw [ha,ByteArray.size_extract]
      unfold restW
      omega
  · rename_i e;exact absurd h e
theorem fld_fits {s:ByteArray} (h:partsE s=0):(begunN (hG s).long).toNat+nFld (pk0 s)≤(aheadS s).size:=by
  obtain ⟨e,h1,h2⟩:=partsE_ok h
  obtain ⟨l,eg,hc,h3,h4⟩:=getB_ok e
  have hG':hG s=hd s l:=by unfold hG;rw [eg]
  have hk:=Head.check_ok hc
  have hsz:=hk.2.2.2.2.2.2.2.2.2
  have hkk:=hk.1
  rw [h2]
  unfold restW nFld nAck nSrv nRst pk0 begunN
  have hw:(get s).1=hG s:=rfl
  rw [hw,hG']
  have hk2:=hk.2.1
  have hw0:=hk.2.2.2.2.2.2.2.2.1
  clear hk hc h4 eg hw hG' h1 h2
  generalize hd s l=H at *
  obtain ⟨q1,q2,words,q3,q4,q5,kind,long,q6⟩:=H
  dsimp only at *
  have kk:kind=0 ∨ kind=1 ∨ kind=2 ∨ kind=3 ∨ kind=4 ∨ kind=5 ∨ kind=6 ∨ kind=7 ∨ kind=8 ∨ kind=9:=by omega
  rcases kk with rfl | rfl | rfl | rfl | rfl | rfl | rfl | rfl | rfl | rfl <;> cases long <;>
    first
    | (simp [Head.brief] at hk2;done)
    | (simp [Head.size,Head.known,Head.brief,Head.acks,Head.more] at hsz;simp [Head.acks,served];omega)
set_option maxRecDepth 100000 in
set_option maxHeartbeats 2000000 in
theorem fPGet_run (s:ByteArray) (x y:Int) (hs:s.size≤4000):(runF Tryz.prog (CGt2 Tryz.prog Tryz.f76) noL Tryz.f40 (Tryz.f40.body.getD .skip) [.v (.string s),.v (.agg #[.int .i64 x,.int .i64 y])] []).ok fun r =>
    (errG s x y=0∧r.1 = .tup [(pkG s).s (.ref 7),.c (.int .i64 0)]∧r.2[7]?=some (.vec true 70 2 (optsOf (optS s)).length (opCells (optsOf (optS s))))) ∨ (¬ errG s x y=0∧r.1 = .v (.tuple #[nonePk.v (.slice none 0 0),.int .i64 (errG s x y)])):=by
  rw [pget2_run]
  have hgt:∀ z:Int,(z > 0→¬ z=0):=fun z h=>by omega
  have no:∀ (H:List Blk) (z:Int),errG s x y=z→¬ z=0→((errG s x y=0∧(SV.v (.tuple #[nonePk.v (.slice none 0 0),.int .i64 z]),H).1 = .tup [(pkG s).s (.ref 7),.c (.int .i64 0)]∧(SV.v (.tuple #[nonePk.v (.slice none 0 0),.int .i64 z]),H).2[7]?=some (.vec true 70 2 (optsOf (optS s)).length (opCells (optsOf (optS s))))) ∨ (¬ errG s x y=0∧(SV.v (.tuple #[nonePk.v (.slice none 0 0),.int .i64 z]),H).1 = .v (.tuple #[nonePk.v (.slice none 0 0),.int .i64 (errG s x y)]))):=fun H z h1 h2=>.inr ⟨by rw [h1];exact h2,by rw [h1]⟩
  have nd:∀ {b:Prop} {i:Decidable b},(!decide b)=true→¬ b:=fun {b i} h e=>by rw [decide_eq_true e] at h;cases h
  have nf:∀ {b:Prop} {i:Decidable b},(!decide b)=false→b:=fun {b i} h=>by
    by_cases e:b
    · exact e
    · rw [decide_eq_false e] at h;cases h
  refine t_ite (fun h=>t_leaf (no _ 11 (if_pos (of_decide_eq_true h)) (by decide))) fun h7=>t_need hs (t_ite (fun h=>?_) fun hp=>t_need hs (t_ite (fun h=>?_) fun hr=>?_))
  · have h:=nd h
    refine t_leaf (no _ (partsE s) ?_ h)
    unfold errG;rw [if_neg (of_decide_eq_false h7),if_neg h]
  · have hp:=nf hp
    refine t_leaf (no _ 5 ?_ (by decide))
    unfold errG;rw [if_neg (of_decide_eq_false h7),if_pos hp,if_neg (by simpa using h)]
  · have hp:=nf hp
    have hr:rightB s x y=true:=by simpa using hr
    have h7:=of_decide_eq_false h7
    have fit:=fld_fits hp
    have hbd:(bodyS s).size=(aheadS s).size - (begunN (hG s).long).toNat:=by unfold bodyS;rw [ByteArray.size_extract];omega
    have hb0:0≤begunN (hG s).long:=by unfold begunN;split <;> decide
    have hah:=(partsE_ok hp).2
    have hrs:restW s≤s.size:=by
      have:=hah.1
      show (4 * (hG s).words).toNat≤_
      omega
    have hos:(optS s).size≤1000:=by unfold optS;rw [ByteArray.size_extract];omega
    refine t_need ⟨hb0,by omega,by omega⟩ (t_need ⟨?n1,?n2⟩ (t_ite (fun h=>?a) fun hn=>t_need ⟨rfl,by omega,?n3,?n4⟩ (t_need ?n5 (t_ite (fun hg=>t_ite (fun h=>by cases h) fun _=>t_ite (fun h=>?b) fun hd=>t_need trivial (t_ite (fun h=>?c) fun hsp=>t_leaf (.inl ⟨?d,rfl,rfl⟩))) fun hg=>t_ite (fun h=>?e) fun h=>?f))))
    case n1=>show nFld (pk0 s)≤(bodyS s).size;omega
    case n2=>show (bodyS s).size≤1000000;omega
    case n3=>show ((nFld (pk0 s):Nat):Int)≤(bodyS s).size;omega
    case n4=>show (bodyS s).size≤1000000;omega
    case n5=>exact hos
    case a =>
      have h:¬ noughtR (pk0 s) (bodyS s)=0:=nd h
      refine t_leaf (no _ 4 ?_ (by decide))
      unfold errG;rw [if_neg h7,if_pos hp,if_pos hr,if_neg h]
    all_goals have hn:noughtR (pk0 s) (bodyS s)=0:=nf hn
    case b =>
      have hg:getE (optS s)=0:=of_decide_eq_true hg
      have h:((pkG s).data.size:Int) > 200:=of_decide_eq_true h
      refine t_leaf (no _ 11 ?_ (by decide))
      unfold errG;rw [if_neg h7,if_pos hp,if_pos hr,if_pos hn,if_pos hg,if_pos h]
    case c =>
      have hg:getE (optS s)=0:=of_decide_eq_true hg
      have hd:¬ ((pkG s).data.size:Int) > 200:=of_decide_eq_false hd
      have h:spareP (pkG s)=true:=h
      refine t_leaf (no _ 4 ?_ (by decide))
      unfold errG;rw [if_neg h7,if_pos hp,if_pos hr,if_pos hn,if_pos hg,if_neg hd,if_pos h]
    case d =>
      have hg:getE (optS s)=0:=of_decide_eq_true hg
      have hd:¬ ((pkG s).data.size:Int) > 200:=of_decide_eq_false hd
      have hsp:spareP (pkG s)=false:=hsp
      unfold errG;rw [if_neg h7,if_pos hp,if_pos hr,if_pos hn,if_pos hg,if_neg hd,hsp,if_neg (by decide)]
    case e =>
      have h:¬ getE (optS s)=0:=nd h
      refine t_leaf (no _ (getE (optS s)) ?_ h)
      unfold errG;rw [if_neg h7,if_pos hp,if_pos hr,if_pos hn,if_neg h]
    case f =>
      have h:getE (optS s)=0:=nf h
      exact absurd h (of_decide_eq_false hg)
def fPGet:List SV→List Blk→Option (T (SV×List Blk))
  | [.v (.string s),.v (.agg ⟨[.int .i64 x,.int .i64 y]⟩)],[]=>some (.need (s.size≤4000) (.ite (decide (errG s x y=0)) (.leaf (.tup [(pkG s).s (.ref 0),.v (.int .i64 0)],[.vec true 70 2 (optsOf (optS s)).length (opCells (optsOf (optS s)))])) (.leaf (.v (.tuple #[nonePk.v (.slice none 0 0),.int .i64 (errG s x y)]),[]))))
  | _,_=>none
set_option maxRecDepth 100000 in
theorem fPGet_ok:EntryOk Tryz.prog 40 fPGet:=by
  intro ss H t ht bs B w vs hm hv Qs hq
  unfold fPGet at ht
  split at ht
  · rename_i s x y
    simp only [Option.some.injEq] at ht
    subst ht
    obtain ⟨hs,hq1,hq2⟩:=hq
    refine (inl_ok CGt2_ok follows Tryz.func40 (by kernel_rfl) (by kernel_rfl) (noloops (by kernel_rfl)) [.v (.string s),.v (.agg ⟨[.int .i64 x,.int .i64 y]⟩)] [] _ rfl bs B w vs hm hv _ (fPGet_run s x y hs)).mono ?_
    rintro e w' ⟨s1,H1,B1,v,hr,hpr,he',hx,hm'⟩
    obtain rfl:B=[]:=List.length_eq_zero_iff.1 hm.sat.len
    rcases hr with ⟨h0,hr,hr2⟩ | ⟨h0,hr⟩
    · dsimp only at hr hr2
      subst hr
      obtain ⟨hl,-⟩:=List.getElem?_eq_some_iff.1 hr2
      have hB:7 < B1.length:=by rw [hm'.sat.len];exact hl
      obtain ⟨u,hu⟩:∃ u,B1[7]?=some u:=⟨_,List.getElem?_eq_getElem hB⟩
      refine ⟨_,_,[u],v,hq1 (decide_eq_true h0),List.nil_prefix,he',?_,mem_pick hm' hr2 hu⟩
      rw [← hx]
      simp [SV.to,SV.tos,hu]
    · dsimp only at hr
      subst hr
      have hm2:=only_mem hm' List.nil_prefix
      exact ⟨_,_,[],v,hq2 (decide_eq_false h0),List.prefix_refl _,he',hx,hm2⟩
  · cases ht
end Go.Proofs.YthacfgaacleaeaaGreatDoor
namespace Go.Proofs.YthacfgaacleaeaaGreatDoor
open Go.IntKind (i64 u32)
open Go.RowKit Sym Sha Inet
def oB (n t:Int) (s:List UInt8):List UInt8:=46 :: 9 :: 4 :: Oct.be (Oct.u64 n) 6++(46 :: 5 :: 6 :: Oct.be (Oct.u64 t) 2++(46 :: 35 :: 5 :: s))++[0,0,0]
theorem oB_front (n t:Int) (s r:List UInt8):∃ a b c d e f g h:UInt8,Oct.be (Oct.u64 n) 6=[a,b,c,d,e,f]∧Oct.be (Oct.u64 t) 2=[g,h]:=⟨_,_,_,_,_,_,_,_,rfl,rfl⟩
theorem at_ba (l:List UInt8) (i:Nat):byteAt (ba l) (i:Int)=((l.getD i 0).toNat:Int):=by
  unfold byteAt
  rw [Int.toNat_natCast,ba_data]
theorem ba_z (l:List UInt8):(ba l).size=l.length:=by show l.toArray.size=l.length;simp
theorem opts_back (n t:Int) (s:List UInt8) (hs:s.length=32):optsOf (ba (oB n t s))=[⟨46,ba (4 :: Oct.be (Oct.u64 n) 6)⟩,⟨46,ba (6 :: Oct.be (Oct.u64 t) 2)⟩,⟨46,ba (5 :: s)⟩]∧errR (ba (oB n t s))=0:=by
  obtain ⟨a,b,c,d,e,f,g,h,e1,e2⟩:=oB_front n t s []
  have hO:oB n t s=46 :: 9 :: 4 :: a :: b :: c :: d :: e :: f :: 46 :: 5 :: 6 :: g :: h :: 46 :: 35 :: 5 :: (s++[0,0,0]):=by
    unfold oB;rw [e1,e2];simp
  rw [e1,e2]
  have hz:(ba (oB n t s)).size=52:=by rw [ba_z,hO];simp [hs]
  have hb:∀ i:Nat,byteAt (ba (oB n t s)) (i:Int)=(((46 :: 9 :: 4 :: a :: b :: c :: d :: e :: f :: 46 :: 5 :: 6 :: g :: h :: 46 :: 35 :: 5 :: (s++[0,0,0])).getD i 0).toNat:Int):=fun i=>by rw [at_ba,hO]
  have x0:kindR (ba (oB n t s)) 0=46:=hb 0
  have m0:manyR (ba (oB n t s)) 0=9:=hb 1
  have x9:kindR (ba (oB n t s)) 9=46:=hb 9
  have m9:manyR (ba (oB n t s)) 9=5:=hb 10
  have x14:kindR (ba (oB n t s)) 14=46:=hb 14
  have m14:manyR (ba (oB n t s)) 14=35:=hb 15
  have hend:∀ k:Nat,k < 3→kindR (ba (oB n t s)) (49+k)=0:=fun k hk=>by
    have:=hb (49+k)
    have e:(46 :: 9 :: 4 :: a :: b :: c :: d :: e :: f :: 46 :: 5 :: 6 :: g :: h :: 46 :: 35 :: 5 :: (s++[0,0,0])).getD (49+k) 0=0:=by
      rw [List.getD_eq_getElem?_getD]
      rw [show 49+k=(32+k)+17 by omega]
      simp only [List.getElem?_cons_succ]
      rw [List.getElem?_append_right (by omega),hs,show 32+k - 32=k by omega]
      match k,hk with
      | 0,_=>rfl
      | 1,_=>rfl
      | 2,_=>rfl
    unfold kindR
    rw [this,e];rfl
  have p1:posR (ba (oB n t s)) 1=9:=by show pos1 _ 0=9;unfold pos1;rw [x0,m0];rfl
  have p2:posR (ba (oB n t s)) 2=14:=by show pos1 _ (posR _ 1)=14;rw [p1];unfold pos1;rw [x9,m9];rfl
  have p3:posR (ba (oB n t s)) 3=49:=by show pos1 _ (posR _ 2)=49;rw [p2];unfold pos1;rw [x14,m14];rfl
  have p4:posR (ba (oB n t s)) 4=50:=by show pos1 _ (posR _ 3)=50;rw [p3];unfold pos1;rw [hend 0 (by omega)];rfl
  have p5:posR (ba (oB n t s)) 5=51:=by show pos1 _ (posR _ 4)=51;rw [p4];unfold pos1;rw [hend 1 (by omega)];rfl
  have p6:posR (ba (oB n t s)) 6=52:=by show pos1 _ (posR _ 5)=52;rw [p5];unfold pos1;rw [hend 2 (by omega)];rfl
  have r0:err1 (ba (oB n t s)) 0=0:=by unfold err1;rw [x0,m0,hz];rfl
  have r9:err1 (ba (oB n t s)) 9=0:=by unfold err1;rw [x9,m9,hz];rfl
  have r14:err1 (ba (oB n t s)) 14=0:=by unfold err1;rw [x14,m14,hz];rfl
  have r49:err1 (ba (oB n t s)) 49=0:=by unfold err1;rw [hend 0 (by omega)];rfl
  have r50:err1 (ba (oB n t s)) 50=0:=by unfold err1;rw [hend 1 (by omega)];rfl
  have r51:err1 (ba (oB n t s)) 51=0:=by unfold err1;rw [hend 2 (by omega)];rfl
  have hno:∀ i p,posR (ba (oB n t s)) i=p→p < 52→err1 (ba (oB n t s)) p=0→stopR (ba (oB n t s)) i=false:=fun i p hp hlt he=>by
    unfold stopR
    rw [hp,he,hz]
    have:Nat.ble 52 p=false:=by rw [← Bool.not_eq_true,Nat.ble_eq];omega
    rw [this];rfl
  have s6:stopR (ba (oB n t s)) 6=true:=by unfold stopR;rw [p6,hz];rfl
  have hE:endR (ba (oB n t s))=6:=by
    unfold endR
    rw [hz]
    show firstOf _ 53 0=6
    have q0:=hno 0 0 rfl (by omega) r0
    have q1:=hno 1 9 p1 (by omega) r9
    have q2:=hno 2 14 p2 (by omega) r14
    have q3:=hno 3 49 p3 (by omega) r49
    have q4:=hno 4 50 p4 (by omega) r50
    have q5:=hno 5 51 p5 (by omega) r51
    have hstep:∀ k i,stopR (ba (oB n t s)) i=false→firstOf (stopR (ba (oB n t s))) (k+1) i=firstOf (stopR (ba (oB n t s))) k (i+1):=fun k i hq=>by
      show (bif stopR (ba (oB n t s)) i then i else _)=_
      rw [hq];rfl
    rw [hstep 52 0 q0,hstep 51 1 q1,hstep 50 2 q2,hstep 49 3 q3,hstep 48 4 q4,hstep 47 5 q5]
    show (bif stopR (ba (oB n t s)) 6 then 6 else _)=6
    rw [s6];rfl
  constructor
  · unfold optsOf
    rw [hE]
    show ((((((([]++acc1 _ (posR _ 0))++acc1 _ (posR _ 1))++acc1 _ (posR _ 2))++acc1 _ (posR _ 3))++acc1 _ (posR _ 4))++acc1 _ (posR _ 5)))=_
    have a0:acc1 (ba (oB n t s)) (posR (ba (oB n t s)) 0)=[⟨46,ba [4,a,b,c,d,e,f]⟩]:=by
      show acc1 _ 0=_
      unfold acc1
      rw [x0,m0,if_neg (by decide),ba_extract,hO];rfl
    have a1:acc1 (ba (oB n t s)) (posR (ba (oB n t s)) 1)=[⟨46,ba [6,g,h]⟩]:=by
      rw [p1]
      unfold acc1
      rw [x9,m9,if_neg (by decide),ba_extract,hO];rfl
    have a2:acc1 (ba (oB n t s)) (posR (ba (oB n t s)) 2)=[⟨46,ba (5 :: s)⟩]:=by
      rw [p2]
      unfold acc1
      rw [x14,m14,if_neg (by decide),ba_extract,hO]
      have:((46 :: 9 :: 4 :: a :: b :: c :: d :: e :: f :: 46 :: 5 :: 6 :: g :: h :: 46 :: 35 :: 5 :: (s++[0,0,0])).drop (14+2)).take (14+(35:Int).toNat - (14+2))=5 :: s:=by
        show (5 :: (s++[0,0,0])).take 33=5 :: s
        rw [List.take_succ_cons,List.take_left' hs]
      rw [this]
    have a3:acc1 (ba (oB n t s)) (posR (ba (oB n t s)) 3)=[]:=by rw [p3];unfold acc1;rw [hend 0 (by omega)];rfl
    have a4:acc1 (ba (oB n t s)) (posR (ba (oB n t s)) 4)=[]:=by rw [p4];unfold acc1;rw [hend 1 (by omega)];rfl
    have a5:acc1 (ba (oB n t s)) (posR (ba (oB n t s)) 5)=[]:=by rw [p5];unfold acc1;rw [hend 2 (by omega)];rfl
    rw [a0,a1,a2,a3,a4,a5];rfl
  · unfold errR
    rw [hE,p6,hz];rfl
end Go.Proofs.YthacfgaacleaeaaGreatDoor
namespace Go.Proofs.YthacfgaacleaeaaGreatDoor
open Go.IntKind (i64 u32)
open Go.RowKit Sym Sha Go.ChangeShapes Go.WideShapes Go.ChangeMaps
def kA8:ByteArray:=⟨#[97,97,97,97,97,97,97,97]⟩
def kB8:ByteArray:=⟨#[98,98,98,98,98,98,98,98]⟩
def xX:ByteArray:=⟨#[120]⟩
def tagW:ByteArray:=tagP kA8 kB8 (dataText 1 5 8 xX)
set_option maxRecDepth 1000000 in
theorem tag_ne:(tagW=tagP kA8 kB8 (dataText 0 5 8 xX))=False:=by
  have:¬ tagW=tagP kA8 kB8 (dataText 0 5 8 xX):=by decide +kernel
  simp [this]
theorem tagW_size:tagW.size=32:=by
  unfold tagW tagP
  rw [if_neg (by decide)]
  exact macOf_size _ _
theorem musAt_new {w:World} {cs:Array Value} {L:List Mp} {c:Nat} (h:cs.toList=cellsM L) (hc:c=L.length) (hm:L.length≤1000):MusAt (w.alloc (.cells cs 65)) (.slice (some ⟨w.heap.size,0,none⟩) L.length c) L:=by
  subst hc
  have hl:cs.toList.length=L.length * 7:=by rw [h,cellsM_len]
  refine musAt_own (base:=0) ⟨cellsM_len L,.inr ⟨w.heap.size,L.length,cs,rfl,Nat.zero_le _,heap_alloc_new w _,Nat.le_refl _,by unfold maxLen;omega,by simpa using hl,?_⟩⟩
  rw [h,List.take_of_length_le (by rw [cellsM_len];omega)]
theorem say_rows {w:World} {v:Value} {L:List Mp} (hL:L.length≤1000) (h:MusAt w v L) (hp:∀ m ∈ L,PutM m) (hs:∀ m ∈ L,(tM m).size≤1000000) (hc:chkO L.length (gM L)=0) :
    Calls Tryz.prog 25 #[.slice none 0 0,v] w fun e w'=>(∃ u,e = .returned (.tuple #[u,.int .i64 0])∧∀ B,BlkSat B w' u (.row L.length 2 fun i j=>(gM L i).c j))∧Below w.heap.size w w' :=
  (say_any hL h hp hs (by rw [List.length_map];exact hc)).mono fun e w' ⟨u,he,ho,hb⟩=>⟨⟨u,he,by have:=row_opN ho;rw [List.length_map] at this;exact this⟩,hb⟩
theorem in3W:In3 5 8 tagW:=⟨by decide,by decide,by decide,by decide,tagW_size⟩
theorem fewW:Few 3 (gM (L3 5 8 tagW)):=few_gM (L:=L3 5 8 tagW) (by decide) (L3_small in3W)
abbrev pkW (u:Value):Value:=.agg #[.int .i64 4,.bool false,.int .i64 0,.int .i64 0,.int .i64 0,.int .i64 0,.int .i64 0,.int .i64 0,.int .i64 0,.int .i64 0,.int .i64 0,u,.string ⟨#[120]⟩]
theorem knW:knP kA8 kB8=true:=by decide
theorem chkW1 {w:World} {u:Value} (hE:ErrT w) (h:∀ B,BlkSat B w u (.row 3 2 fun i j=>(gM (L3 5 8 tagW) i).c j)):Calls Tryz.prog 11 #[.agg #[.string kA8,.string kB8],.int .i64 1,pkW u] w fun e w'=>e = .returned (.int .i64 0)∧Below w.heap.size w w':=by
  have:=check_any kA8 kB8 1 ⟨4,false,0,0,0,0,0,0,0,0,0,xX⟩ hE fewW h (by decide)
  rw [L3_chkG in3W,if_neg (by rw [knW];decide),if_pos (show tagW=tagP kA8 kB8 (dataText 1 5 8 xX) from rfl)] at this
  exact this
theorem chkW0 {w:World} {u:Value} (hE:ErrT w) (h:∀ B,BlkSat B w u (.row 3 2 fun i j=>(gM (L3 5 8 tagW) i).c j)):Calls Tryz.prog 11 #[.agg #[.string kA8,.string kB8],.int .i64 0,pkW u] w fun e w'=>e = .returned (.int .i64 14)∧Below w.heap.size w w':=by
  have:=check_any kA8 kB8 0 ⟨4,false,0,0,0,0,0,0,0,0,0,xX⟩ hE fewW h (by decide)
  rw [L3_chkG in3W,if_neg (by rw [knW];decide),if_neg (fun q=>by rw [tag_ne] at q;exact q)] at this
  exact this
theorem saysW {w:World} {u:Value} (h:∀ B,BlkSat B w u (.row 3 2 fun i j=>(gM (L3 5 8 tagW) i).c j)):Calls Tryz.prog 13 #[.agg #[.string kA8,.string kB8],.int .i64 1,pkW u] w fun e w'=>e = .returned (.bool false)∧Below w.heap.size w w':=by
  have:=says_any kA8 kB8 1 ⟨4,false,0,0,0,0,0,0,0,0,0,xX⟩ fewW h (by decide)
  rw [(L3_says in3W _ _ _).1] at this
  exact this
theorem hearsW {w:World} {u:Value} (h:∀ B,BlkSat B w u (.row 3 2 fun i j=>(gM (L3 5 8 tagW) i).c j)):Calls Tryz.prog 15 #[.agg #[.string kA8,.string kB8],.int .i64 1,pkW u] w fun e w'=>e = .returned (.bool false)∧Below w.heap.size w w':=by
  have:=hears_any kA8 kB8 1 ⟨4,false,0,0,0,0,0,0,0,0,0,xX⟩ fewW h (by decide)
  rw [(L3_says in3W _ _ _).2] at this
  exact this
theorem newW (W:World):Calls Tryz.prog 23 #[.string ⟨#[97,97,97,97,97,97,97,97]⟩,.string ⟨#[98,98,98,98,98,98,98,98]⟩] W fun e w'=>e = .returned (.tuple #[.agg #[.string kA8,.string kB8],.int .i64 0])∧Below W.heap.size W w':=keys_New kA8 kB8 W
theorem datW (W:World):Calls Tryz.prog 24 #[.agg #[.string kA8,.string kB8],.int .i64 1,.int .i64 5,.int .i64 8,.string ⟨#[120]⟩] W fun e w'=>e = .returned (.string tagW)∧Below W.heap.size W w':=keys_Data kA8 kB8 1 5 8 xX (by decide) W
theorem sayW {w:World}:Calls Tryz.prog 25 #[.slice none 0 0,.slice (some ⟨w.heap.size,0,none⟩) 3 3] (w.alloc (.cells #[.int .i64 4,.int .i64 0,.int .i64 0,.int .i64 5,.int .i64 0,.int .i64 0,.string ⟨#[]⟩,.int .i64 6,.int .i64 0,.int .i64 0,.int .i64 8,.int .i64 0,.int .i64 0,.string ⟨#[]⟩,.int .i64 5,.int .i64 0,.int .i64 0,.int .i64 0,.int .i64 0,.int .i64 0,.string tagW] 65)) fun e w'=>(∃ u,e = .returned (.tuple #[u,.int .i64 0])∧∀ B,BlkSat B w' u (.row 3 2 fun i j=>(gM (L3 5 8 tagW) i).c j))∧Below w.heap.size w w':=by
  refine (say_rows (L:=L3 5 8 tagW) (by decide) (musAt_new rfl rfl (by decide)) (L3_put in3W) (L3_small in3W) (L3_chk in3W)).mono ?_
  rintro e w' ⟨hu,hb⟩
  exact ⟨hu,below_of (by (repeat' (first | (with_reducible exact Below.refl _ _) | (with_reducible refine below_alloc ?_ _) | (with_reducible refine Below.drew ?_) | (with_reducible refine below_drewN ?_ _) | (with_reducible refine Below.setCell ?_ ?_ _) | (with_reducible assumption) | (with_reducible refine below_of ?_ (by assumption)) | omega | (simp only [World.size_alloc,World.size_setCell,World.size_drew,size_drewN] at *;omega) | (simp;omega)))) hb⟩
set_option maxRecDepth 100000 in
set_option maxHeartbeats 4000000 in
theorem works40 {w:World} (hE:ErrT w):Calls Tryz.prog 8 #[] w fun e w'=>e = .returned (.bool true)∧Below w.heap.size w w':=by
  have hz:=tagW_size
  have hz2:(tagW.size:Int)=32:=by omega
  go_enter Tryz.func8,Tryz.ntmps8
  go_upto_region 5 with (first
    | (go_at_call 23;refine (newW _).mono ?_;rintro e w1 ⟨rfl,hb⟩;have hb1:Below w.heap.size w w1:=below_of (by (repeat' (first | (with_reducible exact Below.refl _ _) | (with_reducible refine below_alloc ?_ _) | (with_reducible refine Below.drew ?_) | (with_reducible refine below_drewN ?_ _) | (with_reducible refine Below.setCell ?_ ?_ _) | (with_reducible assumption) | (with_reducible refine below_of ?_ (by assumption)) | omega | (simp only [World.size_alloc,World.size_setCell,World.size_drew,size_drewN] at *;omega) | (simp;omega)))) hb)
    | (go_at_call 24;refine (datW _).mono ?_;rintro e w2 ⟨rfl,hb⟩;have hb2:Below w.heap.size w w2:=below_of (by (repeat' (first | (with_reducible exact Below.refl _ _) | (with_reducible refine below_alloc ?_ _) | (with_reducible refine Below.drew ?_) | (with_reducible refine below_drewN ?_ _) | (with_reducible refine Below.setCell ?_ ?_ _) | (with_reducible assumption) | (with_reducible refine below_of ?_ (by assumption)) | omega | (simp only [World.size_alloc,World.size_setCell,World.size_drew,size_drewN] at *;omega) | (simp;omega)))) hb;have hz:=hb.size;(try simp only [World.size_alloc,World.size_setCell,World.size_drew,size_drewN] at hz);apply own_step (B:=w1.heap.size) hb;(focus (repeat (first | (with_reducible assumption) | (with_reducible exact own_new _ _ _) | ((with_reducible apply own_new');focus (first | omega | (simp;done) | (simp;omega))) | (with_reducible apply own_drewN) | (with_reducible apply own_drew) | (with_reducible apply own_alloc) | (with_reducible apply own_setT) | ((with_reducible apply own_set_otherH);focus (first | (simp;done) | (simp;omega))))));intro hO0;have hk0:=hO0.2.1;have hl0:=hO0.1;have hf0:=hO0.2.2;(try simp only [List.setIfInBounds_toArray,List.set_cons_zero,List.set_cons_succ] at hO0 hk0))
    | (go_at_call 25;refine sayW.mono ?_;rintro e w3 ⟨⟨u,rfl,hrow⟩,hb⟩;have hb3:Below w.heap.size w w3:=below_of hb2 hb;have hz:=hb.size;(try simp only [World.size_alloc,World.size_setCell,World.size_drew,size_drewN] at hz);apply own_step (B:=w1.heap.size) hb;(focus (repeat (first | (with_reducible assumption) | (with_reducible exact own_new _ _ _) | ((with_reducible apply own_new');focus (first | omega | (simp;done) | (simp;omega))) | (with_reducible apply own_drewN) | (with_reducible apply own_drew) | (with_reducible apply own_alloc) | (with_reducible apply own_setT) | ((with_reducible apply own_set_otherH);focus (first | (simp;done) | (simp;omega))))));intro hO0;have hk0:=hO0.2.1;have hl0:=hO0.1;have hf0:=hO0.2.2;(try simp only [List.setIfInBounds_toArray,List.set_cons_zero,List.set_cons_succ] at hO0 hk0);obtain ⟨pu,cu,hu,-⟩:=hrow [];subst hu))
  have hrow4:=row_belowF hrow ((Below.refl _ w3).alloc (Nat.le_refl _) (.cells #[.int .i64 4,.bool false,.int .i64 0,.int .i64 0,.int .i64 0,.int .i64 0,.int .i64 0,.int .i64 0,.int .i64 0,.int .i64 0,.int .i64 0,.slice pu 3 cu,.string ⟨#[120]⟩] 31))
  have hx:=own_new w3 #[.int .i64 4,.bool false,.int .i64 0,.int .i64 0,.int .i64 0,.int .i64 0,.int .i64 0,.int .i64 0,.int .i64 0,.int .i64 0,.int .i64 0,.slice pu 3 cu,.string ⟨#[120]⟩] 31
  have hO:=own_alloc hO0 (.cells #[.int .i64 4,.bool false,.int .i64 0,.int .i64 0,.int .i64 0,.int .i64 0,.int .i64 0,.int .i64 0,.int .i64 0,.int .i64 0,.int .i64 0,.slice pu 3 cu,.string ⟨#[120]⟩] 31)
  have hbx:=below_alloc hb3 (.cells #[.int .i64 4,.bool false,.int .i64 0,.int .i64 0,.int .i64 0,.int .i64 0,.int .i64 0,.int .i64 0,.int .i64 0,.int .i64 0,.int .i64 0,.slice pu 3 cu,.string ⟨#[120]⟩] 31)
  have hEx:=hE.below hbx
  clear hO0 hk0 hl0 hf0 hrow hb hz hb1 hb2 hb3
  generalize (w3.alloc _)=W at *
  generalize w3.heap.size=B6 at *
  generalize w1.heap.size=B1 at *
  have hk0:=hO.2.1
  have hk1:=hx.2.1
  go_wp2_with (first
    | (go_at_call 11;(with_reducible refine (chkW1 hEx hrow4).mono ?_);rintro e wq ⟨rfl,hb⟩;replace hEx:=hEx.below hb;replace hrow4:=row_belowF hrow4 hb;replace hO:=own_below hO hb;replace hx:=own_below hx hb;replace hbx:=below_of hbx hb;have hk0:=hO.2.1;have hk1:=hx.2.1)
    | (go_at_call 11;(with_reducible refine (chkW0 hEx hrow4).mono ?_);rintro e wq ⟨rfl,hb⟩;replace hEx:=hEx.below hb;replace hrow4:=row_belowF hrow4 hb;replace hO:=own_below hO hb;replace hx:=own_below hx hb;replace hbx:=below_of hbx hb;have hk0:=hO.2.1;have hk1:=hx.2.1)
    | (go_at_call 13;(with_reducible refine (saysW hrow4).mono ?_);rintro e wq ⟨rfl,hb⟩;replace hEx:=hEx.below hb;replace hrow4:=row_belowF hrow4 hb;replace hO:=own_below hO hb;replace hx:=own_below hx hb;replace hbx:=below_of hbx hb;have hk0:=hO.2.1;have hk1:=hx.2.1)
    | (go_at_call 15;(with_reducible refine (hearsW hrow4).mono ?_);rintro e wq ⟨rfl,hb⟩;replace hEx:=hEx.below hb;replace hrow4:=row_belowF hrow4 hb;replace hO:=own_below hO hb;replace hx:=own_below hx hb;replace hbx:=below_of hbx hb;have hk0:=hO.2.1;have hk1:=hx.2.1))
  go_ret
  exact ⟨rfl,hbx⟩
end Go.Proofs.YthacfgaacleaeaaGreatDoor
namespace Go.Proofs.YthacfgaacleaeaaGreatDoor
open Go.IntKind (i64 u32)
open Go.RowKit Sym Go.ChangeShapes Go.WideShapes Go.ChangeMaps Inet
end Go.Proofs.YthacfgaacleaeaaGreatDoor

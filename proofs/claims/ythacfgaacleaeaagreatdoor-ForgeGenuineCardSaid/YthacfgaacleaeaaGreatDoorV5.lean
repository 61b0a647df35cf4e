/- Parts of a proof: ShaR,ShaQ,MacA,MacB,MacC,MacD,KeysA,KeysC. No conditions. -/
import Derived.Test.YthacfgaacleaeaaGreatDoorV4
set_option linter.unusedVariables false
set_option linter.unusedSimpArgs false
namespace Go.Proofs.YthacfgaacleaeaaGreatDoor
open Go.IntKind (i64 u32)
open Go.RowKit Sym Sha
def stPad (s t:ByteArray):St:=⟨[(0,some (.v (.string s))),(3,some (.v (.string t)))],[]⟩
set_option maxRecDepth 100000 in
theorem stPad_round (s t:ByteArray):roundM Tryz.prog (onlyS Tryz.prog SSha7) noL 18 0 (loopAt Tryz.f160 0) 0 [0,3] [] [] (stPad s t) =
 letI q:=(0,some (.v (.string s)));
 .ite (!decide ((↑t.size:Int).tmod (64:Int)=(56:Int))) (.need (t.size+1≤9223372036854775807) (.leaf (Ex.normal,St.mk [q,(3,some (.v (.string (t++ByteArray.mk (Array.mk [UInt8.ofBitVec (BitVec.ofFin (Fin.mk 0 (Nat.mod_lt 0 (BitVec.ofNat._proof_1 8))))])))))] []))) (.leaf (Ex.exit 0,St.mk [q,(3,some (.v (.string t)))] [])):=by kernel_rfl
def stR1 (p:ByteArray) (a:Int) (hs:List Value) (ws:List Int) (i:Int):St:=⟨[(6,some (.ref 1)),(3,some (.ref 0)),(4,some (.v (.string p))),(5,some (.v (.int .i64 a))),(7,some (.v (.int .i64 i)))],[.vec true 54 1 8 hs,.vec true 54 1 ws.length (ws.map (Value.int .u32))]⟩
set_option maxRecDepth 100000 in
theorem stR1_round (p:ByteArray) (a:Int) (hs:List Value) (ws:List Int) (i:Int):roundM Tryz.prog (onlyS Tryz.prog SSha7) noL 217 2 (loopIn (loopAt Tryz.f124 0) 0) 1 [3,4,5,7] [(6,54,1)] [0] (stR1 p a hs ws i) =
 letI p5:=Value.int u32;
 letI q0:=List.map p5 ws;
 letI z0:=i - (16:Int);
 letI q8:=i64.wrap z0;
 letI p7:=q8.toNat * 1+0;
 letI z:=i - (15:Int);
 letI p0:=i64.wrap z;
 letI q2:=intV (cellAt q0 (p0.toNat * 1+0));
 letI q6:=(4294967296:Int);
 letI z3:=i - (7:Int);
 letI q9:=i64.wrap z3;
 letI p8:=q9.toNat * 1+0;
 letI z2:=i - (2:Int);
 letI p1:=i64.wrap z2;
 letI q3:=intV (cellAt q0 (p1.toNat * 1+0));
 letI q:=[Value.int u32 (u32.wrap (u32.wrap (u32.wrap (intV (cellAt q0 p7)+u32.wrap (↑(Nat.bitwise bne (u32.wrap (↑(Nat.bitwise bne (rorN q2 7 % q6).toNat (rorN q2 18 % q6).toNat):Int) % q6).toNat (q2.fdiv (8:Int) % q6).toNat):Int))+intV (cellAt q0 p8))+u32.wrap (↑(Nat.bitwise bne (u32.wrap (↑(Nat.bitwise bne (rorN q3 17 % q6).toNat (rorN q3 19 % q6).toNat):Int) % q6).toNat (q3.fdiv (1024:Int) % q6).toNat):Int)))];
 letI q4:=a+i64.wrap ((4:Int) * i);
 letI p2:=i64.wrap q4+(4:Int);
 letI q1:=p.extract (i64.wrap q4).toNat (i64.wrap p2).toNat;
 letI z6:=(6,some (SV.ref 1));
 letI z7:=(3,some (SV.ref 0));
 letI z5:=(4,some (.v (.string p)));
 letI z4:=(5,some (.v (.int .i64 a)));
 letI q5:=[z6,z7,z5,z4,(7,some (.v (.int .i64 (i64.wrap (i+(1:Int))))))];
 letI z1:=ws.length+1;
 letI q7:=ws.length+1≤9223372036854775807∧z1 * Tryz.prog.types[54].bytes≤140737488355328;
 letI p3:=(↑ws.length:Int);
 letI p4:=[Value.int u32 (u32.wrap (valU q1))];
 letI p6:=Blk.vec true 54 1 8 hs;
 letI p9:=(0:Int);
 .ite (decide (i < (64:Int))) (.ite (decide (i < (16:Int))) (.need (p9≤i64.wrap q4∧i64.wrap q4≤i64.wrap p2∧i64.wrap p2≤(↑p.size:Int)) (.need (q1.size≤9223372036854775807) (.need q7 (.need (allOneP p4) (.leaf (Ex.normal,St.mk q5 [p6,Blk.vec true 54 1 z1 (List.map p5 ws++p4)])))))) (.need (p9≤i64.wrap z∧i64.wrap z < p3) (.need (p0.toNat < ws.length) (.need (List.take 1 (List.drop (p0.toNat * 1+0) q0)=[Value.int u32 q2]) (.need (p9≤i64.wrap z2∧i64.wrap z2 < p3) (.need (p1.toNat < ws.length) (.need (List.take 1 (List.drop (p1.toNat * 1+0) q0)=[Value.int u32 q3]) (.need (p9≤i64.wrap z0∧i64.wrap z0 < p3) (.need (q8.toNat < ws.length) (.need (List.take 1 (List.drop p7 q0)=[Value.int u32 (intV (cellAt q0 p7))]) (.need (p9≤i64.wrap z3∧i64.wrap z3 < p3) (.need (q9.toNat < ws.length) (.need (List.take 1 (List.drop p8 q0)=[Value.int u32 (intV (cellAt q0 p8))]) (.need q7 (.need (allOneP q) (.leaf (Ex.normal,St.mk q5 [p6,Blk.vec true 54 1 z1 (List.map p5 ws++q)]))))))))))))))))) (.leaf (Ex.exit 2,St.mk [z6,z7,z5,z4,(7,some (.v (.int .i64 i)))] [p6,Blk.vec true 54 1 ws.length q0])):=by kernel_rfl
def u8l (h:H8):List Int:=[h.a,h.b,h.c,h.d,h.e,h.f,h.g,h.h]
def stR2 (p:ByteArray) (a:Int) (hs:List Value) (ws:List Int) (v:H8) (i:Int):St:=⟨[(10,some (.ref 4)),(6,some (.ref 1)),(3,some (.ref 0)),(4,some (.v (.string p))),(5,some (.v (.int .i64 a))),(11,some (.v (.int .i64 i)))],[.vec true 54 1 8 hs,.vec true 54 1 64 (ws.map (Value.int .u32)),.gone,.gone,.vec true 54 1 8 ((u8l v).map (Value.int .u32))]⟩
set_option maxRecDepth 100000 in
theorem stR2_round (p:ByteArray) (a:Int) (hs:List Value) (ws:List Int) (v:H8) (i:Int):roundM Tryz.prog (onlyS Tryz.prog SSha7) noL 217 4 (loopIn (loopAt Tryz.f124 0) 1) 4 [6,3,4,5,11] [(10,54,1)] [0,1] (stR2 p a hs ws v i) =
 letI p6:=Value.int u32 v.a;
 letI p7:=Value.int u32 v.b;
 letI p8:=Value.int u32 v.c;
 letI p9:=Value.int u32 v.e;
 letI z:=Value.int u32 v.f;
 letI z0:=Value.int u32 v.g;
 letI q:=[p6,p7,p8,Value.int u32 v.d,p9,z,z0,Value.int u32 v.h];
 letI q1:=(4294967296:Int);
 letI q2:=List.map (Value.int u32) ws;
 letI p3:=i.toNat * 1+0;
 letI q0:=u32.wrap (u32.wrap (u32.wrap (v.h+u32.wrap (↑(Nat.bitwise bne (u32.wrap (↑(Nat.bitwise bne (rorN v.e 6 % q1).toNat (rorN v.e 11 % q1).toNat):Int) % q1).toNat (rorN v.e 25 % q1).toNat):Int))+u32.wrap (↑(Nat.bitwise bne (u32.wrap (↑(Nat.bitwise Bool.and (v.e % q1).toNat (v.f % q1).toNat):Int) % q1).toNat (u32.wrap (↑(Nat.bitwise Bool.and (u32.wrap (↑(Nat.bitwise bne 4294967295 (v.e % q1).toNat):Int) % q1).toNat (v.g % q1).toNat):Int) % q1).toNat):Int))+nth [(1116352408:Int),(1899447441:Int),(3049323471:Int),(3921009573:Int),(961987163:Int),(1508970993:Int),(2453635748:Int),(2870763221:Int),(3624381080:Int),(310598401:Int),(607225278:Int),(1426881987:Int),(1925078388:Int),(2162078206:Int),(2614888103:Int),(3248222580:Int),(3835390401:Int),(4022224774:Int),(264347078:Int),(604807628:Int),(770255983:Int),(1249150122:Int),(1555081692:Int),(1996064986:Int),(2554220882:Int),(2821834349:Int),(2952996808:Int),(3210313671:Int),(3336571891:Int),(3584528711:Int),(113926993:Int),(338241895:Int),(666307205:Int),(773529912:Int),(1294757372:Int),(1396182291:Int),(1695183700:Int),(1986661051:Int),(2177026350:Int),(2456956037:Int),(2730485921:Int),(2820302411:Int),(3259730800:Int),(3345764771:Int),(3516065817:Int),(3600352804:Int),(4094571909:Int),(275423344:Int),(430227734:Int),(506948616:Int),(659060556:Int),(883997877:Int),(958139571:Int),(1322822218:Int),(1537002063:Int),(1747873779:Int),(1955562222:Int),(2024104815:Int),(2227730452:Int),(2361852424:Int),(2428436474:Int),(2756734187:Int),(3204031479:Int),(3329325298:Int)] i.toNat)+intV (cellAt q2 p3);
 letI q3:=(↑8:Int);
 letI q4:=(0:Int);
 letI q5:=List.take 1 (List.drop 1 q)=[Value.int u32 v.b];
 letI q6:=List.take 1 (List.drop 2 q)=[Value.int u32 v.c];
 letI q7:=q4≤(1:Int)∧(1:Int) < q3;
 letI q8:=q4≤(2:Int)∧(2:Int) < q3;
 letI q9:=List.take 1 (List.drop 5 q)=[Value.int u32 v.f];
 letI p0:=List.take 1 (List.drop 6 q)=[Value.int u32 v.g];
 letI p1:=q4≤(5:Int)∧(5:Int) < q3;
 letI p2:=q4≤(6:Int)∧(6:Int) < q3;
 letI p4:=(5,some (.v (.int .i64 a)));
 letI p5:=(4,some (.v (.string p)));
 letI z1:=(10,some (SV.ref 4));
 letI z2:=Blk.vec true 54 1 64 q2;
 letI z3:=(6,some (SV.ref 1));
 letI z4:=(3,some (SV.ref 0));
 letI z5:=Blk.vec true 54 1 8 hs;
 .ite (decide (i < (64:Int))) (.need (q4≤(4:Int)∧(4:Int) < q3) (.need (4 < 8) (.need (List.take 1 (List.drop 4 q)=[Value.int u32 v.e]) (.need (q4≤q4∧q4 < q3) (.need (0 < 8) (.need (List.take 1 (List.drop 0 q)=[Value.int u32 v.a]) (.need (q4≤(7:Int)∧(7:Int) < q3) (.need (7 < 8) (.need (List.take 1 (List.drop 7 q)=[Value.int u32 v.h]) (.need p1 (.need (5 < 8) (.need q9 (.need p2 (.need (6 < 8) (.need p0 (.need (q4≤i∧i < (64:Int)) (.need (q4≤i∧i < (↑64:Int)) (.need (i.toNat < 64) (.need (List.take 1 (List.drop p3 q2)=[Value.int u32 (intV (cellAt q2 p3))]) (.need q7 (.need (1 < 8) (.need q5 (.need q8 (.need (2 < 8) (.need q6 (.need q7 (.need (1 < 8) (.need q5 (.need q8 (.need (2 < 8) (.need q6 (.need q7 (.need (1 < 8) (.need q5 (.need q8 (.need (2 < 8) (.need q6 (.need (q4≤(3:Int)∧(3:Int) < q3) (.need (3 < 8) (.need (List.take 1 (List.drop 3 q)=[Value.int u32 v.d]) (.need p1 (.need (5 < 8) (.need q9 (.need p2 (.need (6 < 8) (.need p0 (.leaf (Ex.normal,St.mk [z1,z3,z4,p5,p4,(11,some (.v (.int .i64 (i64.wrap (i+(1:Int))))))] [z5,z2,Blk.gone,Blk.gone,Blk.vec true 54 1 8 [Value.int u32 (u32.wrap (u32.wrap q0+u32.wrap (u32.wrap (↑(Nat.bitwise bne (u32.wrap (↑(Nat.bitwise bne (rorN v.a 2 % q1).toNat (rorN v.a 13 % q1).toNat):Int) % q1).toNat (rorN v.a 22 % q1).toNat):Int)+u32.wrap (↑(Nat.bitwise bne (u32.wrap (↑(Nat.bitwise bne (u32.wrap (↑(Nat.bitwise Bool.and (v.a % q1).toNat (v.b % q1).toNat):Int) % q1).toNat (u32.wrap (↑(Nat.bitwise Bool.and (v.a % q1).toNat (v.c % q1).toNat):Int) % q1).toNat):Int) % q1).toNat (u32.wrap (↑(Nat.bitwise Bool.and (v.b % q1).toNat (v.c % q1).toNat):Int) % q1).toNat):Int)))),p6,p7,p8,Value.int u32 (u32.wrap (v.d+u32.wrap q0)),p9,z,z0]])))))))))))))))))))))))))))))))))))))))))))))))) (.leaf (Ex.exit 4,St.mk [z1,z3,z4,p5,p4,(11,some (.v (.int .i64 i)))] [z5,z2,Blk.gone,Blk.gone,Blk.vec true 54 1 8 q])):=by kernel_rfl
theorem wrap_u32 (z:Int) (h0:0≤z) (h1:z < 4294967296):u32.wrap z=z:=by simp only [IntKind.wrap,IntKind.bits,IntKind.signed];simp;omega
theorem word_at (p:ByteArray) (a i:Nat) (h:a+4 * i+4≤p.size):u32.wrap (valU (p.extract (a+4 * i) (a+4 * i+4)))=word (p.data.toList.drop a) i:=by
  have e:(p.extract (a+4 * i) (a+4 * i+4)).data.toList=((p.data.toList.drop a).drop (4 * i)).take 4:=by
    rw [ByteArray.data_extract,Array.toList_extract,List.drop_drop]
    simp [List.extract_eq_take_drop]
  have hv:=val4_lt (((p.data.toList.drop a).drop (4 * i)).take 4) (by simp;omega)
  unfold valU word
  rw [e,Nat.mod_eq_of_lt (by omega),wrap_u32 _ (by omega) (by omega)]
theorem at_num (l:List Int) (j:Nat) (h:j < l.length):intV (cellAt (l.map (Value.int .u32)) (j * 1+0))=nth l j:=by rw [Nat.mul_one,Nat.add_zero];exact (nums_at .u32 l j h).2
theorem at_sh (l:List Int) (j:Nat) (h:j < l.length):List.take 1 (List.drop (j * 1+0) (l.map (Value.int .u32)))=[Value.int .u32 (intV (cellAt (l.map (Value.int .u32)) (j * 1+0)))]:=by rw [Nat.mul_one,Nat.add_zero];exact (nums_at .u32 l j h).1
theorem one_u32 (z:Int):allOneP [Value.int .u32 z]:=by intro u hu;simp at hu;subst hu;rfl
set_option maxRecDepth 100000 in
theorem stR1_step (p:ByteArray) (a:Nat) (hs:List Value) (hp:a+64≤p.size) (hp2:p.size≤2199023255552):∀ i:Nat,i≤64→i ≠ 64→(roundM Tryz.prog (onlyS Tryz.prog SSha7) noL 217 2 (loopIn (loopAt Tryz.f124 0) 0) 1 [3,4,5,7] [(6,54,1)] [0] (stR1 p a hs (schedL (word (p.data.toList.drop a)) i) i)).ok fun r=>r.1 = .normal∧∃ j,j≤64∧64 - j < 64 - i∧r.2=stR1 p a hs (schedL (word (p.data.toList.drop a)) j) (j:Nat):=by
  intro i hi hne
  rw [stR1_round]
  have hl:=schedL_length (word (p.data.toList.drop a)) i
  have e0:i64.wrap ((i:Int)+1)=((i+1:Nat):Int):=by rw [w64 _ (by omega) (by omega)];rfl
  have e1:i64.wrap (4 * (i:Int))=((4 * i:Nat):Int):=by rw [w64 _ (by omega) (by omega)];omega
  have e2:i64.wrap ((a:Int)+((4 * i:Nat):Int))=((a+4 * i:Nat):Int):=by rw [w64 _ (by omega) (by omega)];omega
  have e3:i64.wrap (((a+4 * i:Nat):Int)+4)=((a+4 * i+4:Nat):Int):=by rw [w64 _ (by omega) (by omega)];rfl
  have hby:∀ k b:Nat,k≤64→b=4→k * b≤140737488355328:=fun k b hk hb=>by subst hb;omega
  have fin:∀ v,v=(if i < 16 then word (p.data.toList.drop a) i else nxt (nth (schedL (word (p.data.toList.drop a)) i) (i - 16)) (nth (schedL (word (p.data.toList.drop a)) i) (i - 15)) (nth (schedL (word (p.data.toList.drop a)) i) (i - 7)) (nth (schedL (word (p.data.toList.drop a)) i) (i - 2))) →
      (⟨[(6,some (.ref 1)),(3,some (.ref 0)),(4,some (.v (.string p))),(5,some (.v (.int .i64 a))),(7,some (.v (.int .i64 ((i+1:Nat):Int))))],[.vec true 54 1 8 hs,.vec true 54 1 ((schedL (word (p.data.toList.drop a)) i).length+1) (List.map (Value.int .u32) (schedL (word (p.data.toList.drop a)) i)++[Value.int .u32 v])]⟩:St)=stR1 p a hs (schedL (word (p.data.toList.drop a)) (i+1)) ((i+1:Nat):Int):=by
    intro v hv
    unfold stR1
    rw [schedL_length,schedL_length,hv]
    simp only [schedL,List.map_append,List.map_cons,List.map_nil]
  refine ⟨fun hlt=>⟨fun h16=>?_,fun h16=>?_⟩,fun h=>?_⟩
  · have h16:i < 16:=by have:=of_decide_eq_true h16;omega
    rw [e1,e2,e3,e0]
    refine ⟨by omega,?_,⟨by omega,hby _ _ (by omega) (by kernel_rfl)⟩,one_u32 _,rfl,i+1,by omega,by omega,fin _ ?_⟩
    · rw [Int.toNat_natCast,Int.toNat_natCast,ByteArray.size_extract];omega
    · rw [if_pos h16,Int.toNat_natCast,Int.toNat_natCast,word_at p a i (by omega)]
  · have h16:¬ i < 16:=by have:=of_decide_eq_false h16;omega
    have d1:i64.wrap ((i:Int) - 15)=((i - 15:Nat):Int):=by rw [w64 _ (by omega) (by omega)];omega
    have d2:i64.wrap ((i:Int) - 2)=((i - 2:Nat):Int):=by rw [w64 _ (by omega) (by omega)];omega
    have d3:i64.wrap ((i:Int) - 16)=((i - 16:Nat):Int):=by rw [w64 _ (by omega) (by omega)];omega
    have d4:i64.wrap ((i:Int) - 7)=((i - 7:Nat):Int):=by rw [w64 _ (by omega) (by omega)];omega
    rw [d1,d2,d3,d4,e0]
    simp only [Int.toNat_natCast]
    have hsh:=at_sh (schedL (word (p.data.toList.drop a)) i)
    refine ⟨by omega,by omega,hsh _ (by omega),by omega,by omega,hsh _ (by omega),by omega,by omega,hsh _ (by omega),by omega,by omega,hsh _ (by omega),⟨by omega,hby _ _ (by omega) (by kernel_rfl)⟩,one_u32 _,rfl,i+1,by omega,by omega,fin _ ?_⟩
    rw [if_neg h16,at_num _ _ (by omega),at_num _ _ (by omega),at_num _ _ (by omega),at_num _ _ (by omega)]
    rfl
  · have h:=of_decide_eq_false h;omega
set_option maxRecDepth 100000 in
theorem stR2_step (p:ByteArray) (a:Int) (hs:List Value) (ws:List Int) (hws:ws.length=64) (h:H8):∀ i:Nat,i≤64→i ≠ 64→(roundM Tryz.prog (onlyS Tryz.prog SSha7) noL 217 4 (loopIn (loopAt Tryz.f124 0) 1) 4 [6,3,4,5,11] [(10,54,1)] [0,1] (stR2 p a hs ws (rnds ws i h) i)).ok fun r=>r.1 = .normal∧∃ j,j≤64∧64 - j < 64 - i∧r.2=stR2 p a hs ws (rnds ws j h) (j:Nat):=by
  intro i hi hne
  rw [stR2_round]
  have e0:i64.wrap ((i:Int)+1)=((i+1:Nat):Int):=by rw [w64 _ (by omega) (by omega)];rfl
  have hsh:=at_sh ws i (by omega)
  have hnu:=at_num ws i (by omega)
  rw [e0]
  simp only [Int.toNat_natCast,hnu] at hsh ⊢
  refine ⟨fun hlt=>?_,fun h=>?_⟩
  · simp only [T.ok]
    repeat' apply And.intro
    all_goals first | omega | rfl | exact hsh | trivial | exact ⟨i+1,by omega,by omega,rfl⟩
  · have h:=of_decide_eq_false h;omega
def withH8v {α:Type} (st:St) (j:Nat) (k:H8→T α):T α:=match st.H[j]? with
  | some (.vec _ _ _ _ [.int .u32 a,.int .u32 b,.int .u32 c,.int .u32 d,.int .u32 e,.int .u32 f,.int .u32 g,.int .u32 h])=>k ⟨a,b,c,d,e,f,g,h⟩
  | _=>.stuck 164
theorem runH8v {P:Program} {N:Nat} {c:Code} {st:St} {t:Nat} {k:H8→T (Ex×St)} (h:∀ s,RunOk P N c st (k s)):RunOk P N c st (withH8v st t k):=by
  unfold withH8v;split
  · exact h _
  · exact .stuck
def hvs (h:H8):List Value:=[.int .u32 h.a,.int .u32 h.b,.int .u32 h.c,.int .u32 h.d,.int .u32 h.e,.int .u32 h.f,.int .u32 h.g,.int .u32 h.h]
def LBlk (P:Program) (S:Tab) (fn:Func) (W:ByteArray→Int→List Int) (R:List Int→H8→H8):Nat→St→Option (T (Ex×St)) :=
  addL 2 (fun st=>withStr st 4 fun p=>withInt st 5 fun a=>withH8v st 0 fun h=>.need (0≤a∧a+64≤p.size∧p.size≤2199023255552) (.need (st.H.length=1) (.need (st.tidy 1 [3,4,5,7] [(6,54,1)] [0]=stR1 p a (hvs h) [] (0:Nat)) ((roundM P (onlyS P S) noL 217 2 (loopIn (loopAt fn 0) 0) 1 [3,4,5,7] [(6,54,1)] [0] (closeAt [7] (stR1 p a (hvs h) (W p a) (64:Nat)))).bind (lastX 2)))))
  (addL 4 (fun st=>withStr st 4 fun p=>withInt st 5 fun a=>withH8v st 0 fun h=>.need ((W p a).length=64) (.need (st.H.length=4) (.need (st.tidy 4 [6,3,4,5,11] [(10,54,1)] [0,1]=stR2 p a (hvs h) (W p a) h (0:Nat)) ((roundM P (onlyS P S) noL 217 4 (loopIn (loopAt fn 0) 1) 4 [6,3,4,5,11] [(10,54,1)] [0,1] (closeAt [11] (stR2 p a (hvs h) (W p a) (R (W p a) h) (64:Nat)))).bind (lastX 4)))))
  (addL 6 (unrollB (runC P (onlyS P S) noL 217 (loopIn (loopAt fn 0) 2)) 6 9) noL))
def stR (p:ByteArray) (h:H8) (a:Int):St:=⟨[(3,some (.ref 0)),(4,some (.v (.string p))),(5,some (.v (.int .i64 a)))],[.vec true 54 1 8 (hvs h)]⟩
set_option maxRecDepth 100000 in
theorem stR_round (W:ByteArray→Int→List Int) (R:List Int→H8→H8) (p:ByteArray) (h:H8) (a:Int):roundM Tryz.prog (onlyS Tryz.prog SSha7) (LBlk Tryz.prog SSha7 Tryz.f124 W R) 217 0 (loopAt Tryz.f124 0) 1 [3,4,5] [] [0] (stR p h a) =
 letI y6:=W p a;
 letI q8:=H8.mk h.a h.b h.c h.d h.e h.f h.g h.h;
 letI q:=R y6 (H8.mk q8.a q8.b q8.c q8.d q8.e q8.f q8.g q8.h);
 letI q7:=(0:Int);
 letI z3:=(1:Int);
 letI q4:=i64.wrap (q7+z3)+z3;
 letI y:=i64.wrap q4+z3;
 letI q0:=i64.wrap y+z3;
 letI y5:=Value.int u32 h.2;
 letI y1:=Value.int u32 h.3;
 letI z6:=Value.int u32 h.4;
 letI z4:=Value.int u32 h.5;
 letI p9:=Value.int u32 h.6;
 letI p8:=Value.int u32 h.7;
 letI p5:=Value.int u32 h.8;
 letI q1:=[Value.int u32 h.1,y5,y1,z6,z4,p9,p8,p5];
 letI q2:=[Value.int u32 q.1,Value.int u32 q.2,Value.int u32 q.3,Value.int u32 q.4,Value.int u32 q.5,Value.int u32 q.6,Value.int u32 q.7,Value.int u32 q.8];
 letI y0:=i64.wrap q0+z3;
 letI q3:=i64.wrap y0+z3;
 letI q5:=Value.int u32 (u32.wrap (h.1+q.1));
 letI q6:=Value.int u32 (u32.wrap (h.2+q.2));
 letI p6:=(↑8:Int);
 letI q9:=q7≤i64.wrap y∧i64.wrap y < p6;
 letI p0:=q7≤i64.wrap y0∧i64.wrap y0 < p6;
 letI y4:=i64.wrap q3+z3;
 letI p1:=q7≤i64.wrap y4∧i64.wrap y4 < p6;
 letI p2:=Value.int u32 (u32.wrap (h.3+q.3));
 letI p3:=Value.int u32 (u32.wrap (h.4+q.4));
 letI p4:=q7≤i64.wrap (q7+z3)∧i64.wrap (q7+z3) < p6;
 letI p7:=Value.int u32 (u32.wrap (h.5+q.5));
 letI z:=q7≤i64.wrap q4∧i64.wrap q4 < p6;
 letI z0:=q7≤i64.wrap q0∧i64.wrap q0 < p6;
 letI z1:=q7≤i64.wrap q3∧i64.wrap q3 < p6;
 letI z2:=Value.int u32 (u32.wrap (h.6+q.6));
 letI z5:=(4,some (.v (.string p)));
 letI z7:=(3,some (SV.ref 0));
 letI z8:=(5,some (.v (.int .i64 a)));
 letI z9:=Value.int u32 (u32.wrap (h.7+q.7));
 letI y2:=q7≤q7∧q7 < p6;
 letI y3:=Blk.vec true 54 1 8 q1;
 letI y7:=(6,some (SV.ref 1));
 .ite (decide (a < (↑p.size:Int))) (.need (q7≤a∧a+(64:Int)≤(↑p.size:Int)∧p.size≤2199023255552) (.need (1=1) (.need (St.mk [y7,z7,z5,z8,(7,some (.v (.int .i64 0)))] [y3,Blk.vec true 54 1 0 []]=stR1 p a q1 [] q7) (.need (0+8≤9223372036854775807∧(0+8) * Tryz.prog.types[54].bytes≤140737488355328) (.need (allOneP q1) (.need (y6.length=64) (.need (4=4) (.need (St.mk [(10,some (SV.ref 4)),y7,z7,z5,z8,(11,some (.v (.int .i64 0)))] [y3,Blk.vec true 54 1 y6.length (List.map (Value.int u32) y6),Blk.gone,Blk.gone,y3]=stR2 p a q1 y6 h q7) (.need y2 (.need (0 < 8) (.need (List.take 1 (List.drop 0 q1)=[Value.int u32 h.1]) (.need y2 (.need (0 < 8) (.need (List.take 1 (List.drop 0 q2)=[Value.int u32 q.1]) (.need y2 (.need (0 < 8) (.need p4 (.need (1 < 8) (.need (List.take 1 (List.drop 1 [q5,y5,y1,z6,z4,p9,p8,p5])=[Value.int u32 h.2]) (.need p4 (.need (1 < 8) (.need (List.take 1 (List.drop 1 q2)=[Value.int u32 q.2]) (.need p4 (.need (1 < 8) (.need z (.need (2 < 8) (.need (List.take 1 (List.drop 2 [q5,q6,y1,z6,z4,p9,p8,p5])=[Value.int u32 h.3]) (.need z (.need (2 < 8) (.need (List.take 1 (List.drop 2 q2)=[Value.int u32 q.3]) (.need z (.need (2 < 8) (.need q9 (.need (3 < 8) (.need (List.take 1 (List.drop 3 [q5,q6,p2,z6,z4,p9,p8,p5])=[Value.int u32 h.4]) (.need q9 (.need (3 < 8) (.need (List.take 1 (List.drop 3 q2)=[Value.int u32 q.4]) (.need q9 (.need (3 < 8) (.need z0 (.need (4 < 8) (.need (List.take 1 (List.drop 4 [q5,q6,p2,p3,z4,p9,p8,p5])=[Value.int u32 h.5]) (.need z0 (.need (4 < 8) (.need (List.take 1 (List.drop 4 q2)=[Value.int u32 q.5]) (.need z0 (.need (4 < 8) (.need p0 (.need (5 < 8) (.need (List.take 1 (List.drop 5 [q5,q6,p2,p3,p7,p9,p8,p5])=[Value.int u32 h.6]) (.need p0 (.need (5 < 8) (.need (List.take 1 (List.drop 5 q2)=[Value.int u32 q.6]) (.need p0 (.need (5 < 8) (.need z1 (.need (6 < 8) (.need (List.take 1 (List.drop 6 [q5,q6,p2,p3,p7,z2,p8,p5])=[Value.int u32 h.7]) (.need z1 (.need (6 < 8) (.need (List.take 1 (List.drop 6 q2)=[Value.int u32 q.7]) (.need z1 (.need (6 < 8) (.need p1 (.need (7 < 8) (.need (List.take 1 (List.drop 7 [q5,q6,p2,p3,p7,z2,z9,p5])=[Value.int u32 h.8]) (.need p1 (.need (7 < 8) (.need (List.take 1 (List.drop 7 q2)=[Value.int u32 q.8]) (.need p1 (.need (7 < 8) (.leaf (Ex.normal,St.mk [z7,z5,(5,some (.v (.int .i64 (i64.wrap (a+(64:Int))))))] [Blk.vec true 54 1 8 [q5,q6,p2,p3,p7,z2,z9,Value.int u32 (u32.wrap (h.8+q.8))]])))))))))))))))))))))))))))))))))))))))))))))))))))))))))))))))))))))))))) (.leaf (Ex.exit 0,St.mk [z7,z5,z8] [Blk.vec true 54 1 8 q1])):=by kernel_rfl
def WS (p:ByteArray) (a:Int):List Int:=schedL (word (p.data.toList.drop a.toNat)) 64
def RS (ws:List Int) (h:H8):H8:=rnds ws 64 h
theorem LBlk_ok:∀ id b,(id,b) ∈ loopsOf (loopAt Tryz.f124 0)→∀ st t,LBlk Tryz.prog SSha7 Tryz.f124 WS RS id st=some t→RunOk Tryz.prog 217 (.block id (.loop b)) st t:=by
  have e:loopsOf (loopAt Tryz.f124 0)=[(2,loopIn (loopAt Tryz.f124 0) 0),(4,loopIn (loopAt Tryz.f124 0) 1),(6,loopIn (loopAt Tryz.f124 0) 2)]:=by kernel_rfl
  intro id b hm st t h
  rw [e] at hm
  simp only [List.mem_cons,Prod.mk.injEq,List.not_mem_nil,or_false] at hm
  rcases hm with ⟨rfl,rfl⟩ | ⟨rfl,rfl⟩ | ⟨rfl,rfl⟩
  · rw [addL_same h]
    refine .str fun p=>.int fun a=>runH8v fun h=>.need fun ⟨h0,h1,h2⟩=>?_
    obtain ⟨a,rfl⟩:=Int.eq_ofNat_of_zero_le h0
    exact loop_cnt (onlyS_ok SSha7_ok) follows (by kernel_rfl) (noloops (by kernel_rfl)) (fun i:Nat=>i≤64) (fun i=>stR1 p (a:Int) (hvs h) (schedL (word (p.data.toList.drop a)) i) i) (fun i=>64 - i) 1 [3,4,5,7] [(6,54,1)] [0] 64 [7] (stR1_step p a (hvs h) (by omega) h2) (Nat.zero_le _)
  · rw [addL_same (addL_other (by decide) h)]
    refine .str fun p=>.int fun a=>runH8v fun h=>.need fun hl=>?_
    exact loop_cnt (onlyS_ok SSha7_ok) follows (by kernel_rfl) (noloops (by kernel_rfl)) (fun i:Nat=>i≤64) (fun i=>stR2 p a (hvs h) (WS p a) (rnds (WS p a) i h) i) (fun i=>64 - i) 4 [6,3,4,5,11] [(10,54,1)] [0,1] 64 [11] (stR2_step p a (hvs h) (WS p a) hl h) (Nat.zero_le _)
  · rw [addL_same (addL_other (by decide) (addL_other (by decide) h))]
    exact unroll_ok (onlyS_ok SSha7_ok) follows (by kernel_rfl) (noloops (by kernel_rfl)) 9 st
theorem one_u32s (l:List Int):allOneP (l.map (Value.int .u32)):=by
  intro u hu
  obtain ⟨z,_,rfl⟩:=List.mem_map.1 hu
  rfl
theorem blk_sum (v h:H8):[Value.int .u32 (u32.wrap (h.a+v.a)),.int .u32 (u32.wrap (h.b+v.b)),.int .u32 (u32.wrap (h.c+v.c)),.int .u32 (u32.wrap (h.d+v.d)),.int .u32 (u32.wrap (h.e+v.e)),.int .u32 (u32.wrap (h.f+v.f)),.int .u32 (u32.wrap (h.g+v.g)),.int .u32 (u32.wrap (h.h+v.h))]=hvs (addH v h):=by
  unfold hvs addH w32
  simp only [Int.add_comm]
set_option maxRecDepth 100000 in
set_option maxHeartbeats 1000000 in
theorem stR_blk (p:ByteArray) (h:H8) (a:Nat) (h1:a+64≤p.size) (h2:p.size≤2199023255552):(roundM Tryz.prog (onlyS Tryz.prog SSha7) (LBlk Tryz.prog SSha7 Tryz.f124 WS RS) 217 0 (loopAt Tryz.f124 0) 1 [3,4,5] [] [0] (stR p h (a:Int))).ok fun r=>r=(.normal,stR p (addH (RS (WS p a) h) h) ((a+64:Nat):Int)):=by
  rw [stR_round]
  have hW:(WS p (a:Int)).length=64:=schedL_length _ _
  have e0:i64.wrap ((a:Int)+64)=((a+64:Nat):Int):=by rw [w64 _ (by omega) (by omega)];rfl
  generalize WS p (a:Int)=ws at *
  generalize RS ws _=v at *
  rw [e0]
  refine ⟨fun hlt=>?_,fun h=>?_⟩
  · repeat' refine And.intro ?_ ?_
    all_goals first | omega | rfl | exact one_u32 _ | exact one_u32s (u8l h) | decide | exact Nat.le_of_ble_eq_true (by kernel_rfl) | (unfold stR2;rw [hW];rfl) | (unfold stR;rw [← blk_sum];rfl)
  · have h:=of_decide_eq_false h;omega
theorem ws_sched (p:ByteArray) (a:Nat):WS p (a:Int)=sched ((p.data.toList.drop a).take 64):=by
  unfold WS sched
  rw [Int.toNat_natCast]
  refine schedL_congr (fun i hi=>?_) 64
  unfold word
  rw [List.drop_take,List.take_take,Nat.min_eq_left (by omega)]
theorem stR_step (p:ByteArray) (m:Nat) (hp:p.size=64 * m) (hm:p.size≤2199023255552):∀ k:Nat,k≤m→k ≠ m→(roundM Tryz.prog (onlyS Tryz.prog SSha7) (LBlk Tryz.prog SSha7 Tryz.f124 WS RS) 217 0 (loopAt Tryz.f124 0) 1 [3,4,5] [] [0] (stR p (foldB k H0 p.data.toList) ((64 * k:Nat):Int))).ok fun r=>r.1 = .normal∧∃ j,j≤m∧m - j < m - k∧r.2=stR p (foldB j H0 p.data.toList) ((64 * j:Nat):Int):=by
  intro k hk hne
  have hf:addH (RS (WS p ((64 * k:Nat):Int)) (foldB k H0 p.data.toList)) (foldB k H0 p.data.toList)=foldB (k+1) H0 p.data.toList:=by
    have e:WS p ((64 * k:Nat):Int)=sched ((p.data.toList.drop (64 * k)).take 64):=ws_sched p (64 * k)
    rw [foldB_succ,e]
    rfl
  refine T.ok_mono (fun r hr=>?_) (stR_blk p (foldB k H0 p.data.toList) (64 * k) (by omega) hm)
  subst hr
  exact ⟨rfl,k+1,by omega,by omega,by rw [hf];rfl⟩
def padI (s:ByteArray) (i:Nat):ByteArray:=ba (s.data.toList++128 :: List.replicate i 0)
theorem wrap_u64 (n:Int) (h0:0≤n) (h1:n < 18446744073709551616):IntKind.u64.wrap n=n:=by simp only [IntKind.wrap,IntKind.bits,IntKind.signed];simp;omega
theorem padI_size (s:ByteArray) (i:Nat):(padI s i).size=s.size+1+i:=by unfold padI;rw [ba_len];simp;omega
def nought (n:Nat):Nat:=(119 - n % 64) % 64
theorem stPad_step (s:ByteArray) (hs:s.size≤1000000000000):∀ i:Nat,i≤nought s.size→i ≠ nought s.size→(roundM Tryz.prog (onlyS Tryz.prog SSha7) noL 18 0 (loopAt Tryz.f160 0) 0 [0,3] [] [] (stPad s (padI s i))).ok fun r=>r.1 = .normal∧∃ j,j≤nought s.size∧nought s.size - j < nought s.size - i∧r.2=stPad s (padI s j):=by
  intro i hi hne
  have hlt:i < nought s.size:=by omega
  rw [stPad_round]
  have e:((padI s i).size:Int).tmod 64 ≠ 56:=by
    rw [padI_size,Int.tmod_eq_emod_of_nonneg (by omega)]
    unfold nought at hlt
    omega
  refine ⟨fun _=>⟨by rw [padI_size];unfold nought at hlt;omega,rfl,i+1,by omega,by omega,?_⟩,fun h=>by simp [e] at h⟩
  have:padI s i++ByteArray.mk (Array.mk [0])=padI s (i+1):=by
    unfold padI
    rw [show ByteArray.mk (Array.mk [0])=ba [0] from rfl,ba_append]
    rw [List.append_assoc,List.cons_append,List.replicate_succ',]
  rw [← this]
  rfl
def LPad (P:Program) (S:Tab) (fn:Func):Nat→St→Option (T (Ex×St)) :=
  addL 0 (fun st=>withStr st 0 fun s=>.need (s.size≤1000000000000) (.need (st.H.length=0) (.need (st.tidy 0 [0,3] [] []=stPad s (padI s 0)) ((roundM P (onlyS P S) noL 18 0 (loopAt fn 0) 0 [0,3] [] [] (closeAt [] (stPad s (padI s (nought s.size))))).bind (lastX 0))))) noL
set_option maxRecDepth 100000 in
theorem pad_run (s:ByteArray):runV Tryz.prog (onlyS Tryz.prog SSha7) (LPad Tryz.prog SSha7 Tryz.f160) Tryz.f160 [.string s] =
 letI q1:=(8:Int);
 letI q:=q1 * IntKind.u64.wrap (↑s.size:Int);
 letI q0:=padI s (nought s.size);
 .need (s.size+1≤9223372036854775807) (.need (s.size≤1000000000000) (.need (0=0) (.need (St.mk [(0,some (.v (.string s))),(3,some (.v (.string (s++ByteArray.mk (Array.mk [UInt8.ofBitVec (BitVec.ofFin (Fin.mk 128 (Nat.mod_lt 128 (BitVec.ofNat._proof_1 8))))])))))] []=stPad s (padI s 0)) (.ite (!decide ((↑q0.size:Int).tmod (64:Int)=(56:Int))) (.need (q0.size+1≤9223372036854775807) (T.stuck 39)) (.need ((0:Int)≤IntKind.u64.wrap q∧IntKind.u64.wrap q < (18446744073709551616:Int)∧(0:Int)≤q1∧q1≤q1∧q0.size≤1099511627776) (.leaf (Value.string (Oct.put q0 (IntKind.u64.wrap q) q1)))))))):=by kernel_rfl
theorem ref05_pad (s:ByteArray) (hs:s.size≤1000000000000) (w:World):Calls Tryz.prog 160 #[.string s] w fun e w'=>e = .returned (.string (ba (s.data.toList++tail s.size s.size)))∧Below w.heap.size w w':=by
  refine calls_runV (onlyS_ok SSha7_ok) follows Tryz.func160 (by kernel_rfl) (by kernel_rfl) (one_loop (b:=loopAt Tryz.f160 0) (id:=0) (by kernel_rfl) fun st t h=>?_) (pad_run s) ?_ w
  · rw [addL_same h]
    exact .str fun s=>.need fun hs=>loop_cnt (onlyS_ok SSha7_ok) follows (by kernel_rfl) (noloops (by kernel_rfl)) (fun i:Nat=>i≤nought s.size) (fun i=>stPad s (padI s i)) (fun i=>nought s.size - i) 0 [0,3] [] [] (nought s.size) [] (stPad_step s hs) (Nat.zero_le _)
  · have hn:nought s.size < 64:=by unfold nought;omega
    have e:((padI s (nought s.size)).size:Int).tmod 64=56:=by
      rw [padI_size,Int.tmod_eq_emod_of_nonneg (by omega)]
      unfold nought
      omega
    have e1:IntKind.u64.wrap (s.size:Int)=s.size:=wrap_u64 _ (by omega) (by omega)
    have e2:IntKind.u64.wrap (8 * (s.size:Int))=((8 * s.size:Nat):Int):=by rw [wrap_u64 _ (by omega) (by omega)];omega
    refine ⟨by omega,hs,rfl,?_,(fun h=>by simp [e] at h),fun _=>⟨?_,?_⟩⟩
    · unfold stPad padI
      rw [List.replicate_zero,← ba_append,ba_of]
      rfl
    · rw [e1,e2,padI_size]
      omega
    · rw [e1,e2]
      have e3:Oct.u64 ((8 * s.size:Nat):Int)=8 * s.size % 18446744073709551616:=by unfold Oct.u64;omega
      show Value.string (Oct.put _ _ _)=_
      unfold Oct.put tail padI
      rw [e3]
      simp [ba,nought]
def LOf (P:Program) (S:Tab) (fn:Func):Nat→St→Option (T (Ex×St)) :=
  addL 0 (fun st=>withStr st 4 fun p=>.need (p.size % 64=0∧p.size≤2199023255552) (.need (st.H.length=1) (.need (st.tidy 1 [3,4,5] [] [0]=stR p (foldB 0 H0 p.data.toList) ((64 * 0:Nat):Int)) (.leaf (.normal,stR p (foldB (p.size / 64) H0 p.data.toList) ((64 * (p.size / 64):Nat):Int))))))
  (addL 8 (unrollB (runC P (onlyS P S) noL 217 (loopAt fn 1)) 8 9) noL)
def tPad:List Value→Option (List Prop×Value) | [.string s]=>some ([s.size≤1000000000000],.string (ba (s.data.toList++tail s.size s.size))) | _=>none
def SSha8  : Tab:=addS 160 tPad <| SSha7
theorem SSha8_ok:TabOk Tryz.prog (SSha8):=by
  refine addS_ok (SSha7_ok) (by kernel_rfl) ?_
  · (intro xs p v h hp w;unfold tPad at h;(split at h) <;> first | (cases h;done) | (simp only [Option.some.injEq,Prod.mk.injEq] at h;obtain ⟨rfl,rfl⟩:=h;exact ref05_pad _ (hp _ (List.mem_cons_self ..)) w))
set_option maxRecDepth 100000 in
theorem of05_run (s:ByteArray):runV Tryz.prog (onlyS Tryz.prog SSha8) (LOf Tryz.prog SSha7 Tryz.f124) Tryz.f124 [.string s] =
 letI p5:=ba (s.data.toList++tail s.size s.size);
 letI q:=foldB (p5.size / 64) H0 p5.data.toList;
 letI q5:=(0:Int);
 letI q6:=(1:Int);
 letI z8:=q5+q6;
 letI p7:=i64.wrap z8+q6;
 letI q0:=i64.wrap p7+q6;
 letI z6:=hvs q;
 letI p8:=intV (cellAt z6 (Int.toNat q5 * 1+0));
 letI q7:=(4:Int);
 letI p:=Oct.put (ByteArray.mk #[]) (IntKind.u64.wrap p8) q7;
 letI q8:=intV (cellAt z6 ((i64.wrap z8).toNat * 1+0));
 letI z7:=Oct.put p (IntKind.u64.wrap q8) q7;
 letI p1:=intV (cellAt z6 ((i64.wrap p7).toNat * 1+0));
 letI q1:=Oct.put z7 (IntKind.u64.wrap p1) q7;
 letI q2:=[Value.int u32 q.1,Value.int u32 q.2,Value.int u32 q.3,Value.int u32 q.4,Value.int u32 q.5,Value.int u32 q.6,Value.int u32 q.7,Value.int u32 q.8];
 letI z0:=i64.wrap q0+q6;
 letI q3:=i64.wrap z0+q6;
 letI p2:=intV (cellAt z6 ((i64.wrap q0).toNat * 1+0));
 letI z4:=Oct.put q1 (IntKind.u64.wrap p2) q7;
 letI p4:=intV (cellAt z6 ((i64.wrap z0).toNat * 1+0));
 letI q4:=Oct.put z4 (IntKind.u64.wrap p4) q7;
 letI q9:=i64.wrap q3+q6;
 letI p0:=(18446744073709551616:Int);
 letI p3:=intV (cellAt z6 ((i64.wrap q3).toNat * 1+0));
 letI p6:=intV (cellAt z6 ((i64.wrap q9).toNat * 1+0));
 letI z2:=i64.wrap q9+q6;
 letI p9:=intV (cellAt z6 ((i64.wrap z2).toNat * 1+0));
 letI z:=(↑8:Int);
 letI z1:=(8:Int);
 letI z3:=ba (s.1.toList++tail s.size s.size);
 letI z5:=Oct.put q4 (IntKind.u64.wrap p3) q7;
 .need (s.size≤1000000000000) (.need (p5.size % 64=0∧p5.size≤2199023255552) (.need (1=1) (.need (St.mk [(3,some (SV.ref 0)),(4,some (.v (.string z3))),(5,some (.v (.int .i64 0)))] [Blk.vec true 54 1 8 [Value.int u32 1779033703,Value.int u32 3144134277,Value.int u32 1013904242,Value.int u32 2773480762,Value.int u32 1359893119,Value.int u32 2600822924,Value.int u32 528734635,Value.int u32 1541459225]]=stR z3 (foldB 0 (H8.mk (1779033703:Int) (3144134277:Int) (1013904242:Int) (2773480762:Int) (1359893119:Int) (2600822924:Int) (528734635:Int) (1541459225:Int)) p5.1.toList) q5) (.need (q5≤q5∧q5 < z) (.need (0 < 8) (.need (List.take 1 (List.drop 0 q2)=[Value.int u32 q.1]) (.need (q5≤IntKind.u64.wrap p8∧IntKind.u64.wrap p8 < p0∧q5≤q7∧q7≤z1∧(ByteArray.mk #[]).size≤1099511627776) (.need (q5≤i64.wrap z8∧i64.wrap z8 < z) (.need (1 < 8) (.need (List.take 1 (List.drop 1 q2)=[Value.int u32 q.2]) (.need (q5≤IntKind.u64.wrap q8∧IntKind.u64.wrap q8 < p0∧q5≤q7∧q7≤z1∧p.size≤1099511627776) (.need (q5≤i64.wrap p7∧i64.wrap p7 < z) (.need (2 < 8) (.need (List.take 1 (List.drop 2 q2)=[Value.int u32 q.3]) (.need (q5≤IntKind.u64.wrap p1∧IntKind.u64.wrap p1 < p0∧q5≤q7∧q7≤z1∧z7.size≤1099511627776) (.need (q5≤i64.wrap q0∧i64.wrap q0 < z) (.need (3 < 8) (.need (List.take 1 (List.drop 3 q2)=[Value.int u32 q.4]) (.need (q5≤IntKind.u64.wrap p2∧IntKind.u64.wrap p2 < p0∧q5≤q7∧q7≤z1∧q1.size≤1099511627776) (.need (q5≤i64.wrap z0∧i64.wrap z0 < z) (.need (4 < 8) (.need (List.take 1 (List.drop 4 q2)=[Value.int u32 q.5]) (.need (q5≤IntKind.u64.wrap p4∧IntKind.u64.wrap p4 < p0∧q5≤q7∧q7≤z1∧z4.size≤1099511627776) (.need (q5≤i64.wrap q3∧i64.wrap q3 < z) (.need (5 < 8) (.need (List.take 1 (List.drop 5 q2)=[Value.int u32 q.6]) (.need (q5≤IntKind.u64.wrap p3∧IntKind.u64.wrap p3 < p0∧q5≤q7∧q7≤z1∧q4.size≤1099511627776) (.need (q5≤i64.wrap q9∧i64.wrap q9 < z) (.need (6 < 8) (.need (List.take 1 (List.drop 6 q2)=[Value.int u32 q.7]) (.need (q5≤IntKind.u64.wrap p6∧IntKind.u64.wrap p6 < p0∧q5≤q7∧q7≤z1∧z5.size≤1099511627776) (.need (q5≤i64.wrap z2∧i64.wrap z2 < z) (.need (7 < 8) (.need (List.take 1 (List.drop 7 q2)=[Value.int u32 q.8]) (.need (q5≤IntKind.u64.wrap p9∧IntKind.u64.wrap p9 < p0∧q5≤q7∧q7≤z1∧(Oct.put z5 (IntKind.u64.wrap p6) q7).size≤1099511627776) (.leaf (Value.string (Oct.put (Oct.put (Oct.put (Oct.put (Oct.put (Oct.put (Oct.put (Oct.put (ByteArray.mk (Array.mk [])) (IntKind.u64.wrap q.1) q7) (IntKind.u64.wrap q.2) q7) (IntKind.u64.wrap q.3) q7) (IntKind.u64.wrap q.4) q7) (IntKind.u64.wrap q.5) q7) (IntKind.u64.wrap q.6) q7) (IntKind.u64.wrap q.7) q7) (IntKind.u64.wrap q.8) q7)))))))))))))))))))))))))))))))))))))):=by kernel_rfl
theorem stR_end (p:ByteArray) (h:H8) (a:Nat) (ha:p.size≤a):(roundM Tryz.prog (onlyS Tryz.prog SSha7) (LBlk Tryz.prog SSha7 Tryz.f124 WS RS) 217 0 (loopAt Tryz.f124 0) 1 [3,4,5] [] [0] (stR p h (a:Int))).ok fun r=>r=(.exit 0,stR p h (a:Int)):=by
  rw [stR_round]
  refine ⟨fun h=>?_,fun _=>rfl⟩
  have:=of_decide_eq_true h
  omega
theorem tail_length (r n:Nat):(tail r n).length=9+(119 - r % 64) % 64:=by simp [tail,Oct.be_length];omega
theorem padded (s:ByteArray):(ba (s.data.toList++tail s.size s.size)).size=s.size+9+(119 - s.size % 64) % 64:=by rw [ba_len,List.length_append,tail_length];simp;omega
set_option maxRecDepth 100000 in
theorem ref05_Of (s:ByteArray) (hs:s.size≤1000000000000) (w:World):Calls Tryz.prog 124 #[.string s] w fun e w'=>e = .returned (.string (shaOf s))∧Below w.heap.size w w':=by
  refine calls_runV (onlyS_ok SSha8_ok) follows Tryz.func124 (by kernel_rfl) (by kernel_rfl) (two_loops (b1:=loopAt Tryz.f124 0) (b2:=loopAt Tryz.f124 1) (id1:=0) (id2:=8) (by kernel_rfl) (fun st t h=>?_) (fun st t h=>?_)) (of05_run s) ?_ w
  · rw [addL_same h]
    exact .str fun p=>.need fun ⟨h1,h2⟩=>loop_fin (onlyS_ok SSha7_ok) follows (by kernel_rfl) LBlk_ok (fun k:Nat=>k≤p.size / 64) (fun k=>stR p (foldB k H0 p.data.toList) ((64 * k:Nat):Int)) (fun k=>p.size / 64 - k) 1 [3,4,5] [] [0] (p.size / 64) _ (stR_step p (p.size / 64) (by omega) h2) (stR_end p _ _ (by omega)) (Nat.zero_le _)
  · rw [addL_same (addL_other (by decide) h)]
    exact unroll_ok (onlyS_ok SSha7_ok) follows (by kernel_rfl) (noloops (by kernel_rfl)) 9 st
  · have hp:=padded s
    have e0:shaOf s=ba (txt (foldB ((ba (s.data.toList++tail s.size s.size)).size / 64) H0 (ba (s.data.toList++tail s.size s.size)).data.toList)):=by
      unfold shaOf shaL foldA
      rw [ba_len,ba_data]
      rw [show s.data.toList.length=s.size by simp]
      rfl
    rw [e0]
    refine ⟨hs,⟨by omega,by omega⟩,rfl,rfl,?_⟩
    generalize foldB ((ba (s.data.toList++tail s.size s.size)).size / 64) H0 (ba (s.data.toList++tail s.size s.size)).data.toList=h
    have z0:(ByteArray.mk #[]).size=0:=rfl
    repeat' refine And.intro ?_ ?_
    all_goals first | omega | rfl | exact (u64_range _).1 | exact (u64_range _).2 | decide | (simp only [Oct.put_size,z0];decide) | skip
    show Value.string (Oct.put _ _ _)=_
    simp only [Oct.put,u64_wrap,ba,txt]
    simp
end Go.Proofs.YthacfgaacleaeaaGreatDoor
namespace Go.Proofs.YthacfgaacleaeaaGreatDoor
open Go.IntKind (i64 u32)
open Go.RowKit Sym Sha Go.ChangeShapes Go.WideShapes Go.ChangeMaps
def tShaOf:List Value→Option (List Prop×Value) | [.string s]=>some ([s.size≤1000000000000],.string (shaOf s)) | _=>none
def SSha9  : Tab:=addS 141 tShaOf <| addS 124 tShaOf <| SSha8
theorem SSha9_ok:TabOk Tryz.prog (SSha9):=by
  refine addS_ok (addS_ok (SSha8_ok) (by kernel_rfl) ?_) (by kernel_rfl) ?_
  · (intro xs p v h hp w;unfold tShaOf at h;(split at h) <;> first | (cases h;done) | (simp only [Option.some.injEq,Prod.mk.injEq] at h;obtain ⟨rfl,rfl⟩:=h;exact ref05_Of _ (hp _ (List.mem_cons_self ..)) w))
  · (intro xs p v h hp w;unfold tShaOf at h;(split at h) <;> first | (cases h;done) | (simp only [Option.some.injEq,Prod.mk.injEq] at h;obtain ⟨rfl,rfl⟩:=h;exact sha_Of _ (Nat.le_trans (hp _ (List.mem_cons_self ..)) (by decide)) w))
end Go.Proofs.YthacfgaacleaeaaGreatDoor
namespace Go.Proofs.YthacfgaacleaeaaGreatDoor
open Go.IntKind (i64 u32)
open Go.RowKit Sym Sha Go.ChangeShapes Go.WideShapes Go.ChangeMaps
theorem ndt {p:Prop} [Decidable p] (h:(!decide p)=true) (k:p):False:=by simp [k] at h
theorem ndf {p:Prop} [Decidable p] (h:(!decide p)=false):p:=by simpa using h
theorem cat_data (g:Nat→ByteArray) (i:Nat):(catR g (i+1)).data.toList=(catR g i).data.toList++(g i).data.toList:=by
  show (catR g i++g i).data.toList=_
  rw [ByteArray.data_append];simp
end Go.Proofs.YthacfgaacleaeaaGreatDoor
namespace Go.Proofs.YthacfgaacleaeaaGreatDoor
open Go.IntKind (i64 u32)
open Go.RowKit Sym Sha Go.ChangeShapes Go.WideShapes Go.ChangeMaps
def FMac1 (P:Program) (fw f1 fAdd fNew:Func):LTab:=addT 146 (inl P (onlyS P noS) noL fw) (addT 176 (inl P (onlyS P noS) noL f1) (FSha2 P fAdd fNew))
theorem FMac1_ok:LOk Tryz.prog (FMac1 Tryz.prog Tryz.f146 Tryz.f176 Tryz.f144 Tryz.f143) :=
  addT_ok (addT_ok FSha2_ok (by kernel_rfl) (inl_ok (onlyS_ok noS_ok) follows Tryz.func176 (by kernel_rfl) (by kernel_rfl) (noloops (by kernel_rfl)))) (by kernel_rfl) (inl_ok (onlyS_ok noS_ok) follows Tryz.func146 (by kernel_rfl) (by kernel_rfl) (noloops (by kernel_rfl)))
abbrev CM (P:Program) (S:Tab) (fw f1 fAdd fNew:Func):Cfg:=both P S (FMac1 P fw f1 fAdd fNew) [175,144,147,143,146,176]
theorem CM_ok {S:Tab} (h:TabOk Tryz.prog S):CfgOk Tryz.prog (CM Tryz.prog S Tryz.f146 Tryz.f176 Tryz.f144 Tryz.f143):=both_ok h FMac1_ok
def stT (n:Int) (m:Nat) (xs:List Value) (i:Int):St:=⟨[(1,some (.clo (.func 176) [] [.ptr 0 0])),(5,some (.ref 1)),(10,some (.ref 1)),(11,some (.v (.int .i64 m))),(12,some (.v (.int .i64 i)))],[.own [.v (.int .u8 n)],.vec true noGrow 1 m xs]⟩
set_option maxRecDepth 100000 in
theorem stT_round (n:Int) (m:Nat) (xs:List Value) (i:Int):roundM Tryz.prog (CM Tryz.prog noS Tryz.f146 Tryz.f176 Tryz.f144 Tryz.f143) noL 26 0 (loopAt Tryz.f145 0) 2 [1,5,10,11,12] [] [] (stT n m xs i) =
 letI q:=i.toNat * 1+0;
 letI q0:=(1,some (SV.clo (Fn.func 176) [] [.ptr 0 0]));
 letI q1:=(↑m:Int);
 letI q2:=(11,some (.v (.int .i64 q1)));
 letI q3:=(0:Int)≤i∧i < q1;
 letI q4:=SV.ref 1;
 .ite (decide (i < q1)) (.need q3 (.need (i.toNat < m) (.need (List.take 1 (List.drop q xs)=[Value.int IntKind.u8 (intV (cellAt xs q))]) (.need q3 (.need (i.toNat < m) (.leaf (Ex.normal,St.mk [q0,(5,some q4),(10,some q4),q2,(12,some (.v (.int .i64 (i64.wrap (i+(1:Int))))))] [.own [.v (.int .u8 n)],Blk.vec true 1000000007 1 m (List.take q xs++[Value.int IntKind.u8 (IntKind.u8.wrap (↑(Nat.bitwise bne (intV (cellAt xs q) % (256:Int)).toNat (n % (256:Int)).toNat):Int))]++List.drop (i.toNat * 1+0+1) xs)]))))))) (.leaf (Ex.exit 0,St.mk [q0,(5,some q4),(10,some q4),q2,(12,some (.v (.int .i64 i)))] [.own [.v (.int .u8 n)],Blk.vec true 1000000007 1 m xs])):=by kernel_rfl
def stS (a b:ByteArray) (z:Int) (i:Int):St:=⟨[(0,some (.v (.string a))),(1,some (.v (.string b))),(5,some (.v (.int .u8 z))),(13,some (.v (.int .i64 a.size))),(14,some (.v (.int .i64 i)))],[]⟩
set_option maxRecDepth 100000 in
theorem stS_round (a b:ByteArray) (z:Int) (i:Int):roundM Tryz.prog (onlyS Tryz.prog noS) noL 29 0 (loopAt Tryz.f91 0) 0 [0,1,5,13,14] [] [] (stS a b z i) =
 letI q:=(↑a.size:Int);
 letI q0:=(256:Int);
 letI q1:=(13,some (.v (.int .i64 q)));
 letI q2:=(0,some (.v (.string a)));
 letI q3:=(1,some (.v (.string b)));
 .ite (decide (i < q)) (.need ((0:Int)≤i∧i < q) (.need ((0:Int)≤i∧i < (↑b.size:Int)) (.leaf (Ex.normal,St.mk [q2,q3,(5,some (.v (.int .u8 (IntKind.u8.wrap (↑(Nat.bitwise or (z % q0).toNat (IntKind.u8.wrap (↑(Nat.bitwise bne (byteAt a i % q0).toNat (byteAt b i % q0).toNat):Int) % q0).toNat):Int))))),q1,(14,some (.v (.int .i64 (i64.wrap (i+(1:Int))))))] [])))) (.leaf (Ex.exit 0,St.mk [q2,q3,(5,some (.v (.int .u8 z))),q1,(14,some (.v (.int .i64 i)))] [])):=by kernel_rfl
def stU (s:ByteArray) (n:Int) (t:ByteArray) (i:Int):St:=⟨[(0,some (.v (.string s))),(1,some (.v (.int .u8 n))),(5,some (.v (.string t))),(6,some (.v (.int .i64 i)))],[]⟩
set_option maxRecDepth 100000 in
theorem stU_round (s:ByteArray) (n:Int) (t:ByteArray) (i:Int):roundM Tryz.prog (onlyS Tryz.prog noS) noL 23 0 (loopAt Tryz.f125 0) 0 [0,1,5,6] [] [] (stU s n t i) =
 letI q:=IntKind.u8.wrap (↑(Nat.bitwise bne (byteAt s i % (256:Int)).toNat (n % (256:Int)).toNat):Int);
 letI q3:=[Value.int IntKind.u8 q];
 letI q0:=Array.mk (Sym.strOf q3);
 letI q1:=(1,some (.v (.int .u8 n)));
 letI q2:=(0,some (.v (.string s)));
 .ite (decide (i < (↑s.size:Int))) (.need ((0:Int)≤i∧i < (↑s.size:Int)) (.need (q3=[Value.int IntKind.u8 (↑(UInt8.ofBitVec (BitVec.ofFin (Fin.mk (q.toNat.mod 256) (Nat.mod_lt q.toNat (BitVec.ofNat._proof_1 8))))).toNat:Int)]) (.need (t.size+(ByteArray.mk q0).size≤9223372036854775807) (.leaf (Ex.normal,St.mk [q2,q1,(5,some (.v (.string (t++ByteArray.mk q0)))),(6,some (.v (.int .i64 (i64.wrap (i+(1:Int))))))] []))))) (.leaf (Ex.exit 0,St.mk [q2,q1,(5,some (.v (.string t))),(6,some (.v (.int .i64 i)))] [])):=by kernel_rfl
def stK (k all:ByteArray):St:=⟨[(0,some (.v (.string k))),(1,some (.v (.string all)))],[]⟩
set_option maxRecDepth 100000 in
theorem stK_round (k all:ByteArray):roundM Tryz.prog (onlyS Tryz.prog noS) noL 24 0 (loopAt Tryz.f69 0) 0 [0,1] [] [] (stK k all) =
 letI q:=(1,some (.v (.string all)));
 .ite (decide ((↑k.size:Int) < (64:Int))) (.need (k.size+1≤9223372036854775807) (.leaf (Ex.normal,St.mk [(0,some (.v (.string (k++ByteArray.mk (Array.mk [UInt8.ofBitVec (BitVec.ofFin (Fin.mk 0 (Nat.mod_lt 0 (BitVec.ofNat._proof_1 8))))]))))),q] []))) (.leaf (Ex.exit 0,St.mk [(0,some (.v (.string k))),q] [])):=by kernel_rfl
theorem u8_wrap (n:Nat) (h:n < 256):IntKind.u8.wrap (n:Int)=n:=by simp only [IntKind.wrap,IntKind.bits,IntKind.signed];simp;omega
theorem xor8 (x n:UInt8):IntKind.u8.wrap ((Nat.bitwise bne (((x.toNat:Nat):Int) % 256).toNat (((n.toNat:Nat):Int) % 256).toNat:Nat):Int)=(((x ^^^ n).toNat:Nat):Int):=by
  have hx:=x.toNat_lt
  have hn:=n.toNat_lt
  rw [show (((x.toNat:Nat):Int) % 256).toNat=x.toNat by omega,show (((n.toNat:Nat):Int) % 256).toNat=n.toNat by omega]
  show IntKind.u8.wrap ((x.toNat ^^^ n.toNat:Nat):Int)=_
  rw [← UInt8.toNat_xor]
  exact u8_wrap _ (UInt8.toNat_lt _)
theorem or8 (x n:UInt8):IntKind.u8.wrap ((Nat.bitwise or (((x.toNat:Nat):Int) % 256).toNat (((n.toNat:Nat):Int) % 256).toNat:Nat):Int)=(((x ||| n).toNat:Nat):Int):=by
  have hx:=x.toNat_lt
  have hn:=n.toNat_lt
  rw [show (((x.toNat:Nat):Int) % 256).toNat=x.toNat by omega,show (((n.toNat:Nat):Int) % 256).toNat=n.toNat by omega]
  show IntKind.u8.wrap ((x.toNat ||| n.toNat:Nat):Int)=_
  rw [← UInt8.toNat_or]
  exact u8_wrap _ (UInt8.toNat_lt _)
theorem bytesV_map (l:List UInt8):bytesV l=(l.map fun b=>(b.toNat:Int)).map (Value.int .u8):=by unfold bytesV;rw [List.map_map];rfl
theorem bytes_at (l:List UInt8) (j:Nat) (h:j < l.length):((bytesV l).drop j).take 1=[.int .u8 (intV (cellAt (bytesV l) j))]∧intV (cellAt (bytesV l) j)=((l.getD j 0).toNat:Int):=by
  rw [bytesV_map]
  have:=nums_at .u8 (l.map fun b=>(b.toNat:Int)) j (by simpa using h)
  refine ⟨this.1,this.2.trans ?_⟩
  simp [nth,List.getD_eq_getElem?_getD,h]
theorem strOf_bytesV (l:List UInt8):Sym.strOf (bytesV l)=l:=by
  unfold Sym.strOf bytesV
  rw [List.map_map]
  conv=>rhs;rw [← List.map_id l]
  apply List.map_congr_left
  intro b _
  show UInt8.ofNat ((b.toNat:Int)).toNat=b
  rw [Int.toNat_natCast];exact UInt8.ofNat_toNat
def turnI (n:UInt8) (l:List UInt8) (i:Nat):List UInt8:=Mac.turn n (l.take i)++l.drop i
theorem turnI_length (n:UInt8) (l:List UInt8) (i:Nat):(turnI n l i).length=l.length:=by simp [turnI,Mac.turn];omega
theorem turnI_get (n:UInt8) (l:List UInt8) (i:Nat) (h:i < l.length):(turnI n l i).getD i 0=l[i]:=by
  unfold turnI
  have:(Mac.turn n (l.take i)).length=i:=by simp only [Mac.turn,List.length_map,List.length_take];omega
  rw [List.getD_eq_getElem?_getD,List.getElem?_append_right (by omega)]
  rw [this];simp [h]
theorem turnI_succ (n:UInt8) (l:List UInt8) (i:Nat) (h:i < l.length):(bytesV (turnI n l i)).take i++[Value.int .u8 (((l[i] ^^^ n).toNat:Nat):Int)]++(bytesV (turnI n l i)).drop (i+1)=bytesV (turnI n l (i+1)):=by
  have e1:(Mac.turn n (l.take i)).length=i:=by simp [Mac.turn];omega
  have e2:(turnI n l i).take i=Mac.turn n (l.take i):=by unfold turnI;rw [List.take_left' e1]
  have e3:(turnI n l i).drop (i+1)=l.drop (i+1):=by
    unfold turnI
    rw [List.drop_append,List.drop_of_length_le (by omega),e1,List.drop_drop,List.nil_append]
    congr 1;omega
  unfold bytesV
  rw [← List.map_take,← List.map_drop,e2,e3]
  unfold turnI
  rw [List.take_succ_eq_append_getElem h]
  simp only [Mac.turn,List.map_append,List.map_cons,List.map_nil,List.append_assoc]
theorem stT_step (n:UInt8) (l:List UInt8) (hl:l.length≤9223372036854775807):∀ i:Nat,i≤l.length→i ≠ l.length→(roundM Tryz.prog (CM Tryz.prog noS Tryz.f146 Tryz.f176 Tryz.f144 Tryz.f143) noL 26 0 (loopAt Tryz.f145 0) 2 [1,5,10,11,12] [] [] (stT n.toNat l.length (bytesV (turnI n l i)) (i:Nat))).ok fun r=>r.1 = .normal∧∃ j,j≤l.length∧l.length - j < l.length - i∧r.2=stT n.toNat l.length (bytesV (turnI n l j)) (j:Nat):=by
  intro i hi hne
  have hlt:i < l.length:=by omega
  rw [stT_round]
  simp only [Int.toNat_natCast,Nat.mul_one,Nat.add_zero]
  have hb:=bytes_at (turnI n l i) i (by rw [turnI_length];omega)
  rw [turnI_get n l i hlt] at hb
  refine ⟨fun _=>⟨by omega,by omega,hb.1,by omega,by omega,rfl,i+1,by omega,by omega,?_⟩,fun h=>by simp at h;omega⟩
  rw [hb.2,xor8,turnI_succ n l i hlt,w64 ((i:Int)+1) (by omega) (by omega)]
  rfl
def LTurned (P:Program) (C:Cfg) (fn:Func) (n:UInt8) (l:List UInt8):Nat→St→Option (T (Ex×St)) :=
  addL 0 (fun st=>.need (st.H.length=2) (.need (st.tidy 2 [1,5,10,11,12] [] []=stT n.toNat l.length (bytesV (turnI n l 0)) (0:Nat)) ((roundM P C noL 26 0 (loopAt fn 0) 2 [1,5,10,11,12] [] [] (closeAt [] (stT n.toNat l.length (bytesV (turnI n l l.length)) (l.length:Nat)))).bind (lastX 0)))) noL
set_option maxRecDepth 100000 in
theorem turned_run (z:Int) (n:UInt8) (s:ByteArray):runF Tryz.prog (CM Tryz.prog noS Tryz.f146 Tryz.f176 Tryz.f144 Tryz.f143) (LTurned Tryz.prog (CM Tryz.prog noS Tryz.f146 Tryz.f176 Tryz.f144 Tryz.f143) Tryz.f145 n s.data.toList) Tryz.f145 (Tryz.f145.body.getD .skip) [.v (.string s),.clo (.func 176) [] [.ptr 0 0]] [.own [.v (.int .u8 z)]] =
 letI q:=turnI n s.1.toList s.1.toList.length;
 letI q0:=(↑s.data.toList.length:Int);
 letI q1:=(↑s.1.toList.length:Int);
 letI q2:=bytesV q;
 letI q3:=(0:Int)≤q0∧q0 < q0;
 letI q4:=q1.toNat < s.1.toList.length;
 .need (s.size≤9223372036854775807) (.need (2=2) (.need (St.mk [(1,some (SV.clo (Fn.func 176) [] [.ptr 0 0])),(5,some (SV.ref 1)),(10,some (SV.ref 1)),(11,some (.v (.int .i64 (↑s.size:Int)))),(12,some (.v (.int .i64 0)))] [.own [.v (.int .u8 z)],Blk.vec true 1000000007 1 s.size (bytesV s.1.toList)]=stT (↑n.toNat:Int) s.1.toList.length (bytesV (turnI n s.1.toList 0)) (0:Int)) (.ite (decide (q1 < q1)) (.need q3 (.need q4 (.need (List.take 1 (List.drop (q1.toNat * 1+0) q2)=[Value.int IntKind.u8 (intV (cellAt q2 (q1.toNat * 1+0)))]) (.need q3 (.need q4 (T.stuck 39)))))) (.need (bytesV q=bytesV (Sym.strOf q2)) (.leaf (.v (.string (ByteArray.mk (Array.mk (Sym.strOf q2)))),[.own [.v (.int .u8 (↑n.toNat:Int))],Blk.vec true 1000000007 1 s.1.toList.length q2])))))):=by kernel_rfl
def fTurned:List SV→List Blk→Option (T (SV×List Blk))
  | [.v (.string s),.clo (.func f) [] [.ptr 0 0]],[.own [.v (.int .u8 z)]]=>bif Nat.beq f 176 then
    some (.need (s.size≤9223372036854775807∧0≤z∧z < 256) (.leaf (.v (.string (ba (Mac.turn (UInt8.ofNat z.toNat) s.data.toList))),[.own [.v (.int .u8 z)]]))) else none
  | _,_=>none
set_option maxRecDepth 100000 in
theorem fTurned_ok:EntryOk Tryz.prog 145 fTurned:=by
  intro ss H t ht bs B w vs hm hv Qs hq
  unfold fTurned at ht
  split at ht
  · rename_i s f z
    cases hf:Nat.beq f 176
    · rw [hf] at ht;cases ht
    · rw [hf,cond_true,Option.some.injEq] at ht
      have hf:=Nat.eq_of_beq_eq_true hf
      subst hf
      subst ht
      obtain ⟨⟨p1,p2,p3⟩,hq⟩:=hq
      have hz:z=((UInt8.ofNat z.toNat).toNat:Int):=by rw [UInt8.toNat_ofNat'];omega
      generalize UInt8.ofNat z.toNat=n at hq hz
      have hsz:s.data.toList.length≤9223372036854775807:=by rw [show s.data.toList.length=s.size by simp];exact p1
      refine treeT_ok (CM_ok noS_ok) follows Tryz.func145 (by kernel_rfl) (by kernel_rfl) (one_loop (b:=loopAt Tryz.f145 0) (id:=0) (by kernel_rfl) fun st t h=>?_) (turned_run z n s) (fun Qs h=>?_) hm hv hq
      · rw [addL_same h]
        exact loop_cnt (CM_ok noS_ok) follows (by kernel_rfl) (noloops (by kernel_rfl)) (fun i:Nat=>i≤s.data.toList.length) (fun i=>stT n.toNat s.data.toList.length (bytesV (turnI n s.data.toList i)) (i:Nat)) (fun i=>s.data.toList.length - i) 2 [1,5,10,11,12] [] [] s.data.toList.length [] (stT_step n s.data.toList hsz) (Nat.zero_le _)
      · have e:turnI n s.data.toList s.data.toList.length=Mac.turn n s.data.toList:=by unfold turnI;rw [List.take_length,List.drop_length,List.append_nil]
        refine ⟨p1,rfl,?_,(fun e=>?_),fun _=>?_⟩
        · subst hz;rfl
        · have:=of_decide_eq_true e;omega
        · refine ⟨by rw [strOf_bytesV],?_⟩
          rw [e,strOf_bytesV,← hz]
          exact h
  · cases ht
def apart (a b:ByteArray):Nat→UInt8
  | 0=>0
  | i+1=>apart a b i ||| (a.data.toList.getD i 0 ^^^ b.data.toList.getD i 0)
theorem apart_zero (a b:ByteArray):∀ i,apart a b i=0 ↔ ∀ j,j < i→a.data.toList.getD j 0=b.data.toList.getD j 0
  | 0=>⟨fun _ j h=>absurd h (Nat.not_lt_zero _),fun _=>rfl⟩
  | i + 1=>by
    show (apart a b i ||| _)=0 ↔ _
    rw [UInt8.or_eq_zero_iff,UInt8.xor_eq_zero_iff,apart_zero a b i]
    constructor
    · rintro ⟨h1,h2⟩ j hj
      by_cases e:j=i
      · subst e;exact h2
      · exact h1 j (by omega)
    · intro h
      exact ⟨fun j hj=>h j (by omega),h i (by omega)⟩
theorem apart_eq (a b:ByteArray) (h:a.size=b.size):apart a b a.size=0 ↔ a=b:=by
  rw [apart_zero]
  constructor
  · intro hh
    apply ByteArray.ext
    apply Array.toList_inj.1
    apply List.ext_getElem
    · simpa using h
    · intro i h1 h2
      have:=hh i (by simpa using h1)
      rw [List.getD_eq_getElem?_getD,List.getD_eq_getElem?_getD,List.getElem?_eq_getElem h1,List.getElem?_eq_getElem h2] at this
      exact this
  · rintro rfl j _;rfl
theorem stS_step (a b:ByteArray) (hs:a.size≤maxLen) (hab:a.size=b.size):∀ i:Nat,i≤a.size→i ≠ a.size→(roundM Tryz.prog (onlyS Tryz.prog noS) noL 29 0 (loopAt Tryz.f91 0) 0 [0,1,5,13,14] [] [] (stS a b (apart a b i).toNat (i:Nat))).ok fun r=>r.1 = .normal∧∃ j,j≤a.size∧a.size - j < a.size - i∧r.2=stS a b (apart a b j).toNat (j:Nat):=by
  intro i hi hne
  unfold maxLen at hs
  have hlt:i < a.size:=by omega
  rw [stS_round]
  refine ⟨fun _=>⟨by omega,by omega,rfl,i+1,by omega,by omega,?_⟩,fun h=>by simp at h;omega⟩
  have e:∀ s:ByteArray,byteAt s (i:Nat)=(((s.data.toList.getD i 0).toNat:Nat):Int):=fun s=>by unfold byteAt;rw [Int.toNat_natCast]
  rw [e a,e b,xor8,or8,w64 ((i:Int)+1) (by omega) (by omega)]
  rfl
def LSame (P:Program) (S:Tab) (fn:Func) (a b:ByteArray):Nat→St→Option (T (Ex×St)) :=
  addL 0 (fun st=>.need (a.size≤maxLen∧a.size=b.size) (.need (st.H.length=0) (.need (st.tidy 0 [0,1,5,13,14] [] []=stS a b (apart a b 0).toNat (0:Nat)) ((roundM P (onlyS P S) noL 29 0 (loopAt fn 0) 0 [0,1,5,13,14] [] [] (closeAt [] (stS a b (apart a b a.size).toNat (a.size:Nat)))).bind (lastX 0))))) noL
set_option maxRecDepth 100000 in
theorem same_run (a b:ByteArray):runV Tryz.prog (onlyS Tryz.prog noS) (LSame Tryz.prog noS Tryz.f91 a b) Tryz.f91 [.string a,.string b] =
 letI q:=(↑a.size:Int);
 letI q0:=(0:Int);
 .ite (!decide (q=(↑b.size:Int))) (.leaf (Value.bool false)) (.need (a.size≤maxLen∧a.size=b.size) (.need (0=0) (.need (St.mk [(0,some (.v (.string a))),(1,some (.v (.string b))),(5,some (.v (.int .u8 0))),(13,some (.v (.int .i64 q))),(14,some (.v (.int .i64 0)))] []=stS a b (↑(apart a b 0).toNat:Int) q0) (.ite (decide (q < q)) (.need (q0≤q∧q < q) (.need (q0≤q∧q < (↑b.size:Int)) (T.stuck 39))) (.leaf (Value.bool (decide ((↑(apart a b a.size).toNat:Int)=q0)))))))):=by kernel_rfl
theorem mac_Same (a b:ByteArray) (hs:a.size≤maxLen) (w:World):Calls Tryz.prog 91 #[.string a,.string b] w fun e w'=>e = .returned (.bool (decide (a=b)))∧Below w.heap.size w w':=by
  refine calls_runV (onlyS_ok noS_ok) follows Tryz.func91 (by kernel_rfl) (by kernel_rfl) (one_loop (b:=loopAt Tryz.f91 0) (id:=0) (by kernel_rfl) fun st t h=>?_) (same_run a b) ?_ w
  · rw [addL_same h]
    exact .need fun ⟨h1,h2⟩=>loop_cnt (onlyS_ok noS_ok) follows (by kernel_rfl) (noloops (by kernel_rfl)) (fun i:Nat=>i≤a.size) (fun i=>stS a b (apart a b i).toNat (i:Nat)) (fun i=>a.size - i) 0 [0,1,5,13,14] [] [] a.size [] (stS_step a b h1 h2) (Nat.zero_le _)
  · have hz:(((apart a b a.size).toNat:Nat):Int)=0 ↔ apart a b a.size=0:=by
      rw [Int.natCast_eq_zero,← UInt8.toNat_inj];rfl
    refine ⟨fun h=>?_,fun h=>⟨⟨hs,?_⟩,rfl,rfl,(fun h=>?_),fun _=>?_⟩⟩
    · have hn:¬ a=b:=fun e=>ndt h (by rw [e])
      show Value.bool false=_
      rw [decide_eq_false hn]
    · have:=ndf h;omega
    · have:=of_decide_eq_true h;omega
    · have hab:a.size=b.size:=by have:=ndf h;omega
      show Value.bool _=_
      congr 1
      rw [decide_eq_decide,hz,apart_eq a b hab]
def turned (n:UInt8) (s:ByteArray) (i:Nat):ByteArray:=ba (Mac.turn n (s.data.toList.take i))
theorem stU_step (s:ByteArray) (n:UInt8) (hs:s.size≤maxLen):∀ i:Nat,i≤s.size→i ≠ s.size→(roundM Tryz.prog (onlyS Tryz.prog noS) noL 23 0 (loopAt Tryz.f125 0) 0 [0,1,5,6] [] [] (stU s n.toNat (turned n s i) (i:Nat))).ok fun r=>r.1 = .normal∧∃ j,j≤s.size∧s.size - j < s.size - i∧r.2=stU s n.toNat (turned n s j) (j:Nat):=by
  intro i hi hne
  unfold maxLen at hs
  have hlt:i < s.size:=by omega
  have hl:i < s.data.toList.length:=by simpa using hlt
  rw [stU_round]
  have e:∀ s:ByteArray,byteAt s (i:Nat)=(((s.data.toList.getD i 0).toNat:Nat):Int):=fun s=>by unfold byteAt;rw [Int.toNat_natCast]
  have e1:(turned n s i).size=i:=by unfold turned;rw [ba_len];simp only [Mac.turn,List.length_map,List.length_take];omega
  have e2:Sym.strOf [Value.int .u8 (((s.data.toList.getD i 0 ^^^ n).toNat:Nat):Int)]=[s.data.toList.getD i 0 ^^^ n]:=strOf_bytesV [_]
  simp only [e,xor8,e2]
  refine ⟨fun _=>⟨by omega,?_,?_,rfl,i+1,by omega,by omega,?_⟩,fun h=>by simp at h;omega⟩
  · show [Value.int .u8 (((s.data.toList.getD i 0 ^^^ n).toNat:Nat):Int)]=bytesV (Sym.strOf [Value.int .u8 (((s.data.toList.getD i 0 ^^^ n).toNat:Nat):Int)])
    rw [e2];rfl
  · rw [e1];show i+1≤_;omega
  · rw [w64 ((i:Int)+1) (by omega) (by omega)]
    have:turned n s i++ByteArray.mk (Array.mk [s.data.toList.getD i 0 ^^^ n])=turned n s (i+1):=by
      unfold turned
      show ba _++ba [_]=_
      rw [ba_append,List.take_succ_eq_append_getElem hl,List.getD_eq_getElem?_getD,List.getElem?_eq_getElem hl]
      simp only [Mac.turn,List.map_append,List.map_cons,List.map_nil,Option.getD_some]
    rw [this]
    rfl
def LTurn (P:Program) (S:Tab) (fn:Func) (n:UInt8):Nat→St→Option (T (Ex×St)) :=
  addL 0 (fun st=>withStr st 0 fun s=>.need (s.size≤maxLen) (.need (st.H.length=0) (.need (st.tidy 0 [0,1,5,6] [] []=stU s n.toNat (turned n s 0) (0:Nat)) ((roundM P (onlyS P S) noL 23 0 (loopAt fn 0) 0 [0,1,5,6] [] [] (closeAt [] (stU s n.toNat (turned n s s.size) (s.size:Nat)))).bind (lastX 0))))) noL
set_option maxRecDepth 100000 in
theorem turn06_run (s:ByteArray) (n:UInt8):runV Tryz.prog (onlyS Tryz.prog noS) (LTurn Tryz.prog noS Tryz.f125 n) Tryz.f125 [.string s,.int .u8 n.toNat] =
 letI q0:=(↑s.size:Int);
 letI q1:=(↑n.toNat:Int);
 letI q:=IntKind.u8.wrap (↑(Nat.bitwise bne (byteAt s q0 % (256:Int)).toNat (q1 % (256:Int)).toNat):Int);
 letI q2:=[Value.int IntKind.u8 q];
 letI q3:=turned n s s.size;
 .need (s.size≤9223372036854775807) (.need (0=0) (.need (St.mk [(0,some (.v (.string s))),(1,some (.v (.int .u8 q1))),(5,some (.v (.string (ByteArray.mk (Array.mk []))))),(6,some (.v (.int .i64 0)))] []=stU s q1 (turned n s 0) (0:Int)) (.ite (decide (q0 < q0)) (.need ((0:Int)≤q0∧q0 < q0) (.need (q2=[Value.int IntKind.u8 (↑(UInt8.ofBitVec (BitVec.ofFin (Fin.mk (q.toNat.mod 256) (Nat.mod_lt q.toNat (BitVec.ofNat._proof_1 8))))).toNat:Int)]) (.need (q3.size+(ByteArray.mk (Array.mk (Sym.strOf q2))).size≤9223372036854775807) (T.stuck 39)))) (.leaf (Value.string q3))))):=by kernel_rfl
theorem ref06_turned (s:ByteArray) (n:UInt8) (hs:s.size≤maxLen) (w:World):Calls Tryz.prog 125 #[.string s,.int .u8 n.toNat] w fun e w'=>e = .returned (.string (ba (Mac.turn n s.data.toList)))∧Below w.heap.size w w':=by
  refine calls_runV (onlyS_ok noS_ok) follows Tryz.func125 (by kernel_rfl) (by kernel_rfl) (one_loop (b:=loopAt Tryz.f125 0) (id:=0) (by kernel_rfl) fun st t h=>?_) (turn06_run s n) ?_ w
  · rw [addL_same h]
    exact .str fun s=>.need fun h1=>loop_cnt (onlyS_ok noS_ok) follows (by kernel_rfl) (noloops (by kernel_rfl)) (fun i:Nat=>i≤s.size) (fun i=>stU s n.toNat (turned n s i) (i:Nat)) (fun i=>s.size - i) 0 [0,1,5,6] [] [] s.size [] (stU_step s n h1) (Nat.zero_le _)
  · refine ⟨hs,rfl,rfl,(fun h=>?_),fun _=>?_⟩
    · have:=of_decide_eq_true h;omega
    · show Value.string (turned n s s.size)=_
      unfold turned
      rw [List.take_of_length_le (by simp)]
def tTurned06:List Value→Option (List Prop×Value) | [.string s,.int .u8 z]=>some ([s.size≤maxLen∧0≤z∧z < 256],.string (ba (Mac.turn (UInt8.ofNat z.toNat) s.data.toList))) | _=>none
theorem turned06_tab (s:ByteArray) (z:Int) (h:s.size≤maxLen∧0≤z∧z < 256) (w:World):Calls Tryz.prog 125 #[.string s,.int .u8 z] w fun e w'=>e = .returned (.string (ba (Mac.turn (UInt8.ofNat z.toNat) s.data.toList)))∧Below w.heap.size w w':=by
  have hz:z=((UInt8.ofNat z.toNat).toNat:Int):=by rw [UInt8.toNat_ofNat'];omega
  generalize UInt8.ofNat z.toNat=n at hz
  subst hz
  exact ref06_turned s n h.1 w
def tSame:List Value→Option (List Prop×Value) | [.string a,.string b]=>some ([a.size≤maxLen],.bool (decide (a=b))) | _=>none
def SMac1  : Tab:=addS 91 tSame <| addS 125 tTurned06 <| SSha9
theorem SMac1_ok:TabOk Tryz.prog (SMac1):=by
  refine addS_ok (addS_ok (SSha9_ok) (by kernel_rfl) ?_) (by kernel_rfl) ?_
  · (intro xs p v h hp w;unfold tTurned06 at h;(split at h) <;> first | (cases h;done) | (simp only [Option.some.injEq,Prod.mk.injEq] at h;obtain ⟨rfl,rfl⟩:=h;exact turned06_tab _ _ (hp _ (List.mem_cons_self ..)) w))
  · (intro xs p v h hp w;unfold tSame at h;(split at h) <;> first | (cases h;done) | (simp only [Option.some.injEq,Prod.mk.injEq] at h;obtain ⟨rfl,rfl⟩:=h;exact mac_Same _ _ (hp _ (List.mem_cons_self ..)) w))
def stKI (k all:ByteArray) (i:Nat):St:=stK (k++ba (List.replicate i 0)) all
theorem stKI_step (k all:ByteArray) (hk:k.size≤64):∀ i:Nat,i≤64 - k.size→i ≠ 64 - k.size→(roundM Tryz.prog (onlyS Tryz.prog noS) noL 24 0 (loopAt Tryz.f69 0) 0 [0,1] [] [] (stKI k all i)).ok fun r=>r.1 = .normal∧∃ j,j≤64 - k.size∧64 - k.size - j < 64 - k.size - i∧r.2=stKI k all j:=by
  intro i hi hne
  have e:(k++ba (List.replicate i 0)).size=k.size+i:=by rw [ByteArray.size_append,ba_len,List.length_replicate]
  unfold stKI
  rw [stK_round]
  refine ⟨fun _=>⟨by omega,rfl,i+1,by omega,by omega,?_⟩,fun h=>?_⟩
  · show stK (k++ba (List.replicate i 0)++ba [0]) all=_
    rw [List.replicate_succ',← ba_append,ByteArray.append_assoc]
  · have:=of_decide_eq_false h;omega
def LKey (P:Program) (S:Tab) (fn:Func):Nat→St→Option (T (Ex×St)) :=
  addL 0 (fun st=>withStr st 0 fun k=>withStr st 1 fun all=>.need (k.size≤64) (.need (st.H.length=0) (.need (st.tidy 0 [0,1] [] []=stKI k all 0) ((roundM P (onlyS P S) noL 24 0 (loopAt fn 0) 0 [0,1] [] [] (closeAt [] (stKI k all (64 - k.size)))).bind (lastX 0))))) noL
set_option maxRecDepth 100000 in
theorem of06_run (key all:ByteArray):runV Tryz.prog (onlyS Tryz.prog SMac1) (LKey Tryz.prog noS Tryz.f69) Tryz.f69 [.string key,.string all] =
 letI p1:=BitVec.ofNat._proof_1 8;
 letI q7:=UInt8.ofBitVec (BitVec.ofFin (Fin.mk 54 (Nat.mod_lt 54 p1)));
 letI p:=shaOf key;
 letI q5:=List.replicate (64 - p.size) (0:UInt8);
 letI q2:=Array.mk (p.1.toList++(ba q5).1.toList);
 letI q:=Mac.turn q7 q2.toList;
 letI q6:=List.replicate (64 - key.size) (0:UInt8);
 letI q3:=Array.mk (key.1.toList++(ba q6).1.toList);
 letI q0:=Mac.turn q7 q3.toList;
 letI q1:=UInt8.ofBitVec (BitVec.ofFin (Fin.mk 92 (Nat.mod_lt 92 p1)));
 letI q4:=UInt8.ofBitVec (BitVec.ofFin (Fin.mk 0 (Nat.mod_lt 0 p1)));
 letI q8:=shaOf key++ba (List.replicate (64 - p.size) q4);
 letI z0:=Mac.turn q1 q3.toList;
 letI p7:=ba q0++all;
 letI q9:=ba z0++shaOf p7;
 letI z:=Mac.turn q1 q2.toList;
 letI p8:=ba q++all;
 letI p0:=ba z++shaOf p8;
 letI p2:=key++ba (List.replicate (64 - key.size) q4);
 letI p3:=(256:Int);
 letI p4:=(1,some (.v (.string all)));
 letI p5:=(92:Int);
 letI p6:=(54:Int);
 letI p9:=(0:Int);
 letI z1:=shaOf key++ba q5;
 .ite (decide ((↑key.size:Int) > (64:Int))) (.need (key.size≤1000000000000) (.need (p.size≤64) (.need (0=0) (.need (St.mk [(0,some (.v (.string p))),p4] []=stKI p all 0) (.ite (decide ((↑q8.size:Int) < (64:Int))) (.need (q8.size+1≤9223372036854775807) (T.stuck 39)) (.need (z1.size≤maxLen∧p9≤p5∧p5 < p3) (.need (z1.size≤maxLen∧p9≤p6∧p6 < p3) (.need ((ba q).size+all.size≤9223372036854775807) (.need (p8.size≤1000000000000) (.need ((ba z).size+(shaOf p8).size≤9223372036854775807) (.need (p0.size≤1000000000000) (.leaf (Value.string (shaOf p0)))))))))))))) (.need (key.size≤64) (.need (0=0) (.need (St.mk [(0,some (.v (.string key))),p4] []=stKI key all 0) (.ite (decide ((↑p2.size:Int) < (64:Int))) (.need (p2.size+1≤9223372036854775807) (T.stuck 39)) (.need ((key++ba q6).size≤maxLen∧p9≤p5∧p5 < p3) (.need ((key++ba q6).size≤maxLen∧p9≤p6∧p6 < p3) (.need ((ba q0).size+all.size≤9223372036854775807) (.need (p7.size≤1000000000000) (.need ((ba z0).size+(shaOf p7).size≤9223372036854775807) (.need (q9.size≤1000000000000) (.leaf (Value.string (shaOf q9))))))))))))):=by kernel_rfl
theorem ba_app (x:List UInt8) (y:ByteArray):(ba x++y).data.toList=x++y.data.toList:=by rw [ByteArray.data_append];simp [ba]
theorem app_nil (k:ByteArray):k++ba []=k:=by apply ByteArray.ext;rw [ByteArray.data_append];simp [ba]
theorem nil_app (k:ByteArray):ba []++k=k:=by apply ByteArray.ext;rw [ByteArray.data_append];simp [ba]
def padK (k:ByteArray):ByteArray:=k++ba (List.replicate (64 - k.size) 0)
theorem padK_size (k:ByteArray) (h:k.size≤64):(padK k).size=64:=by unfold padK;rw [ByteArray.size_append,ba_len,List.length_replicate];omega
def keyB (key:ByteArray):ByteArray:=if 64 < key.size then shaOf key else key
theorem keyB_size (key:ByteArray):(keyB key).size≤64:=by
  unfold keyB
  by_cases h:64 < key.size
  · simp only [if_pos h,shaOf_size];omega
  · simp only [if_neg h];omega
theorem padK_key (key:ByteArray):(padK (keyB key)).data.toList=Mac.key64 key.data.toList:=by
  unfold padK keyB Mac.key64
  have hs:key.data.toList.length=key.size:=by simp
  by_cases h:64 < key.size
  · have hz:=shaOf_size key
    have hl:=Sha.shaL_length key.data.toList
    simp only [hs,if_pos h,hz,hl]
    rw [ByteArray.data_append];simp [ba,shaOf]
  · simp only [hs,if_neg h]
    rw [ByteArray.data_append];simp [ba]
theorem turn_length (n:UInt8) (l:List UInt8):(Mac.turn n l).length=l.length:=by simp [Mac.turn]
theorem mac_val (key all:ByteArray) {K:List UInt8} (hK:K=Mac.key64 key.data.toList):shaOf (ba (Mac.turn 92 K)++shaOf (ba (Mac.turn 54 K)++all))=macOf key all:=by
  subst hK
  unfold macOf Mac.macL
  show ba (shaL (ba _++shaOf _).data.toList)=_
  rw [ba_app]
  show ba (shaL (_++shaL (ba _++all).data.toList))=_
  rw [ba_app]
  rfl
set_option maxRecDepth 100000 in
theorem ref06_Of (key all:ByteArray) (hk:key.size≤1000000000000) (ha:all.size≤100000000000) (w:World):Calls Tryz.prog 69 #[.string key,.string all] w fun e w'=>e = .returned (.string (macOf key all))∧Below w.heap.size w w':=by
  refine calls_runV (onlyS_ok SMac1_ok) follows Tryz.func69 (by kernel_rfl) (by kernel_rfl) (one_loop (b:=loopAt Tryz.f69 0) (id:=0) (by kernel_rfl) fun st t h=>?_) (of06_run key all) ?_ w
  · rw [addL_same h]
    exact .str fun k=>.str fun all=>.need fun h1=>loop_cnt (onlyS_ok noS_ok) follows (by kernel_rfl) (noloops (by kernel_rfl)) (fun i:Nat=>i≤64 - k.size) (fun i=>stKI k all i) (fun i=>64 - k.size - i) 0 [0,1] [] [] (64 - k.size) [] (stKI_step k all h1) (Nat.zero_le _)
  · have h0:∀ k:ByteArray,stK k all=stKI k all 0:=fun k=>by unfold stKI;rw [List.replicate_zero,app_nil]
    have hz:=padK_size _ (keyB_size key)
    have hK:=padK_key key
    have t1:∀ n,(ba (Mac.turn n (padK (keyB key)).data.toList)).size=64:=fun n=>by rw [ba_len,turn_length];show (padK (keyB key)).data.toList.length=64;rw [show (padK (keyB key)).data.toList.length=(padK (keyB key)).size by simp,hz]
    have hv:=mac_val key all hK
    have s1:=keyB_size key
    by_cases hb:64 < key.size
    · have e:keyB key=shaOf key:=by unfold keyB;rw [if_pos hb]
      rw [e] at hz t1 hv s1
      refine ⟨fun _=>⟨hk,s1,rfl,h0 _,(fun h=>?_),fun _=>⟨?_,?_,?_,?_,?_,?_,?_⟩⟩,fun h=>?_⟩
      · have h:=of_decide_eq_true h
        have h:((padK (shaOf key)).size:Int) < 64:=h
        omega
      · exact ⟨by show (padK (shaOf key)).size≤maxLen;rw [hz];unfold maxLen;omega,by omega,by omega⟩
      · exact ⟨by show (padK (shaOf key)).size≤maxLen;rw [hz];unfold maxLen;omega,by omega,by omega⟩
      · show (ba (Mac.turn 54 (padK (shaOf key)).data.toList)).size+all.size≤_
        rw [t1];omega
      · show (ba (Mac.turn 54 (padK (shaOf key)).data.toList)++all).size≤_
        rw [ByteArray.size_append,t1];omega
      · show (ba (Mac.turn 92 (padK (shaOf key)).data.toList)).size+(shaOf _).size≤_
        rw [t1,shaOf_size];omega
      · show (ba (Mac.turn 92 (padK (shaOf key)).data.toList)++shaOf _).size≤_
        rw [ByteArray.size_append,t1,shaOf_size];omega
      · exact congrArg Value.string hv
      · have h:=of_decide_eq_false h;omega
    · have e:keyB key=key:=by unfold keyB;rw [if_neg hb]
      rw [e] at hz t1 hv s1
      refine ⟨fun h=>?_,fun _=>⟨s1,rfl,h0 _,(fun h=>?_),fun _=>⟨?_,?_,?_,?_,?_,?_,?_⟩⟩⟩
      · have h:=of_decide_eq_true h;omega
      · have h:=of_decide_eq_true h
        have h:((padK key).size:Int) < 64:=h
        omega
      · exact ⟨by show (padK key).size≤maxLen;rw [hz];unfold maxLen;omega,by omega,by omega⟩
      · exact ⟨by show (padK key).size≤maxLen;rw [hz];unfold maxLen;omega,by omega,by omega⟩
      · show (ba (Mac.turn 54 (padK key).data.toList)).size+all.size≤_
        rw [t1];omega
      · show (ba (Mac.turn 54 (padK key).data.toList)++all).size≤_
        rw [ByteArray.size_append,t1];omega
      · show (ba (Mac.turn 92 (padK key).data.toList)).size+(shaOf _).size≤_
        rw [t1,shaOf_size];omega
      · show (ba (Mac.turn 92 (padK key).data.toList)++shaOf _).size≤_
        rw [ByteArray.size_append,t1,shaOf_size];omega
      · exact congrArg Value.string hv
def tMac06:List Value→Option (List Prop×Value) | [.string k,.string a]=>some ([k.size≤1000000000000∧a.size≤100000000000],.string (macOf k a)) | _=>none
def SMac2  : Tab:=addS 69 tMac06 <| SMac1
theorem SMac2_ok:TabOk Tryz.prog (SMac2):=by
  refine addS_ok (SMac1_ok) (by kernel_rfl) ?_
  · (intro xs p v h hp w;unfold tMac06 at h;(split at h) <;> first | (cases h;done) | (simp only [Option.some.injEq,Prod.mk.injEq] at h;obtain ⟨rfl,rfl⟩:=h;exact ref06_Of _ _ (hp _ (List.mem_cons_self ..)).1 (hp _ (List.mem_cons_self ..)).2 w))
def FMac2 (P:Program) (fw f1 fAdd fNew:Func):LTab:=addF 145 fTurned (FMac1 P fw f1 fAdd fNew)
theorem FMac2_ok:LOk Tryz.prog (FMac2 Tryz.prog Tryz.f146 Tryz.f176 Tryz.f144 Tryz.f143):=addF_ok FMac1_ok (by kernel_rfl) fTurned_ok
abbrev CN (P:Program) (S:Tab) (fw f1 fAdd fNew:Func):Cfg:=both P S (FMac2 P fw f1 fAdd fNew) [175,144,147,143,146,176,145]
theorem CN_ok {S:Tab} (h:TabOk Tryz.prog S):CfgOk Tryz.prog (CN Tryz.prog S Tryz.f146 Tryz.f176 Tryz.f144 Tryz.f143):=both_ok h FMac2_ok
def stM (key:ByteArray) (n:Nat) (g:Nat→ByteArray) (h:H8) (r:ByteArray) (m:Int) (i:Int):St:=⟨[(0,some (.v (.string key))),(5,some (.ptr 1 0)),(25,some (.ref 0)),(26,some (.v (.int .i64 n))),(27,some (.v (.int .i64 i)))],[.row n 1 (fun i _=>.string (g i)),.own (stC h r m),.own [.v (.int .u8 54)]]⟩
set_option maxRecDepth 100000 in
theorem stM_round (key:ByteArray) (n:Nat) (g:Nat→ByteArray) (h:H8) (r:ByteArray) (m:Int) (i:Int):roundM Tryz.prog (CN Tryz.prog SMac2 Tryz.f146 Tryz.f176 Tryz.f144 Tryz.f143) noL 42 0 (loopAt Tryz.f98 0) 3 [0,5,25,26,27] [] [] (stM key n g h r m i) =
 letI q1:=(↑n:Int);
 letI q:=(26,some (.v (.int .i64 q1)));
 letI q0:=(0,some (.v (.string key)));
 letI q2:=(25,some (SV.ref 0));
 letI q3:=(5,some (.ptr 1 0));
 .ite (decide (i < q1)) (.need ((0:Int)≤i∧i < q1) (.need (i.toNat < n) (.need (r.size+(g i.toNat).size≤9223372036854775807) (.leaf (Ex.normal,St.mk [q0,q3,q2,q,(27,some (.v (.int .i64 (i64.wrap (i+(1:Int))))))] [Blk.row n 1 fun i x=>Value.string (g i),.own [.v (.int .u32 (foldA h (Array.mk (r.1.toList++(g i.toNat).1.toList)).toList).a),.v (.int .u32 (foldA h (Array.mk (r.1.toList++(g i.toNat).1.toList)).toList).b),.v (.int .u32 (foldA h (Array.mk (r.1.toList++(g i.toNat).1.toList)).toList).c),.v (.int .u32 (foldA h (Array.mk (r.1.toList++(g i.toNat).1.toList)).toList).d),.v (.int .u32 (foldA h (Array.mk (r.1.toList++(g i.toNat).1.toList)).toList).e),.v (.int .u32 (foldA h (Array.mk (r.1.toList++(g i.toNat).1.toList)).toList).f),.v (.int .u32 (foldA h (Array.mk (r.1.toList++(g i.toNat).1.toList)).toList).g),.v (.int .u32 (foldA h (Array.mk (r.1.toList++(g i.toNat).1.toList)).toList).h),.v (.string (ba (restA (Array.mk (r.1.toList++(g i.toNat).1.toList)).toList))),.v (.int .i64 (i64.wrap (m+(↑(g i.toNat).size:Int))))],.own [.v (.int .u8 54)]]))))) (.leaf (Ex.exit 0,St.mk [q0,q3,q2,q,(27,some (.v (.int .i64 i)))] [Blk.row n 1 fun i x=>Value.string (g i),.own [.v (.int .u32 h.a),.v (.int .u32 h.b),.v (.int .u32 h.c),.v (.int .u32 h.d),.v (.int .u32 h.e),.v (.int .u32 h.f),.v (.int .u32 h.g),.v (.int .u32 h.h),.v (.string r),.v (.int .i64 m)],.own [.v (.int .u8 54)]])):=by kernel_rfl
end Go.Proofs.YthacfgaacleaeaaGreatDoor
namespace Go.Proofs.YthacfgaacleaeaaGreatDoor
open Go.IntKind (i64 u32)
open Go.RowKit Sym Sha Go.ChangeShapes Go.WideShapes Go.ChangeMaps
def stMI (key:ByteArray) (n:Nat) (g:Nat→ByteArray) (p:List UInt8) (i:Nat):St:=stM key n g (foldA H0 (p++(catR g i).data.toList)) (ba (restA (p++(catR g i).data.toList))) ((p.length:Int)+((catR g i).size:Int)) (i:Int)
theorem stMI_step (key:ByteArray) (n:Nat) (g:Nat→ByteArray) (p:List UInt8) (hn:n≤maxLen) (hp:p.length≤64) (hc:(catR g n).size≤100000000000):∀ i:Nat,i≤n→i ≠ n→(roundM Tryz.prog (CN Tryz.prog SMac2 Tryz.f146 Tryz.f176 Tryz.f144 Tryz.f143) noL 42 0 (loopAt Tryz.f98 0) 3 [0,5,25,26,27] [] [] (stMI key n g p i)).ok fun r=>r.1 = .normal∧∃ j,j≤n∧n - j < n - i∧r.2=stMI key n g p j:=by
  intro i hi hne
  unfold maxLen at hn
  have hlt:i < n:=by omega
  have hm:=catR_mono g (show i+1≤n by omega)
  have hsz:(catR g (i+1)).size=(catR g i).size+(g i).size:=by show (catR g i++g i).size=_;rw [ByteArray.size_append]
  have hr:=restA_length (p++(catR g i).data.toList)
  unfold stMI
  rw [stM_round]
  simp only [Int.toNat_natCast]
  have e:(p++(catR g i).data.toList)++(g i).data.toList=p++(catR g (i+1)).data.toList:=by rw [cat_data,List.append_assoc]
  have hw:i64.wrap ((p.length:Int)+((catR g i).size:Int)+((g i).size:Int))=(p.length:Int)+((catR g (i+1)).size:Int):=by rw [w64 _ (by omega) (by omega)];omega
  have hw1:i64.wrap ((i:Int)+1)=((i+1:Nat):Int):=by rw [w64 _ (by omega) (by omega)];rfl
  refine ⟨fun _=>⟨by omega,by omega,?_,rfl,i+1,by omega,by omega,?_⟩,fun h=>?_⟩
  · rw [ba_len,hr];omega
  · show stM key n g (foldA (foldA H0 (p++(catR g i).data.toList)) (restA (p++(catR g i).data.toList)++(g i).data.toList)) (ba (restA (restA (p++(catR g i).data.toList)++(g i).data.toList))) (i64.wrap ((p.length:Int)+((catR g i).size:Int)+((g i).size:Int))) (i64.wrap ((i:Int)+1))=_
    rw [foldA_append,restA_append,hw,hw1,e]
  · have h:=of_decide_eq_false h;omega
def LMac (P:Program) (C:Cfg) (fn:Func) (n:Nat) (g:Nat→ByteArray) (p:List UInt8):Nat→St→Option (T (Ex×St)) :=
  addL 0 (fun st=>withStr st 0 fun key=>.need (p.length=64) (.need (st.H.length=3) (.need (st.tidy 3 [0,5,25,26,27] [] []=stMI key n g p 0) ((roundM P C noL 42 0 (loopAt fn 0) 3 [0,5,25,26,27] [] [] (closeAt [] (stMI key n g p n))).bind (lastX 0))))) noL
set_option maxRecDepth 100000 in
theorem macOf_run (key:ByteArray) (n:Nat) (g:Nat→ByteArray) (p:List UInt8):trimT 1 (runF Tryz.prog (CN Tryz.prog SMac2 Tryz.f146 Tryz.f176 Tryz.f144 Tryz.f143) (LMac Tryz.prog (CN Tryz.prog SMac2 Tryz.f146 Tryz.f176 Tryz.f144 Tryz.f143) Tryz.f98 n g p) Tryz.f98 (Tryz.f98.body.getD .skip) [.v (.string key),.ref 0] [.row n 1 fun i _=>.string (g i)]) =
 letI q:=H8.mk (1779033703:Int) (3144134277:Int) (1013904242:Int) (2773480762:Int) (1359893119:Int) (2600822924:Int) (528734635:Int) (1541459225:Int);
 letI z5:=(54:Int);
 letI y6:=UInt8.ofNat (Int.toNat z5);
 letI p8:=ByteArray.mk #[(0:UInt8)];
 letI x1:=shaOf key;
 letI q8:=(64:Int) - (↑x1.size:Int);
 letI z6:=i64.wrap q8;
 letI q3:=Lib.repeatL p8.data.toList z6.toNat;
 letI z7:=shaOf key++ba q3;
 letI q0:=Array.mk ((Array.mk []).toList++(ba (Mac.turn y6 z7.data.toList)).1.toList);
 letI x4:=(↑key.size:Int);
 letI p9:=(64:Int) - x4;
 letI p0:=i64.wrap p9;
 letI q4:=Lib.repeatL p8.data.toList p0.toNat;
 letI y9:=key++ba q4;
 letI q1:=Array.mk ((Array.mk []).toList++(ba (Mac.turn y6 y9.data.toList)).1.toList);
 letI z1:=catR g n;
 letI z9:=p++z1.1.toList;
 letI y0:=ba (restA (p++z1.data.toList));
 letI z8:=(↑p.length:Int);
 letI y:=(↑z1.size:Int);
 letI q2:=txt (foldA (foldA q z9) (y0.1.toList++tail (ba (restA z9)).size (z8+y).toNat));
 letI z2:=BitVec.ofNat._proof_1 8;
 letI q5:=Array.mk [UInt8.ofBitVec (BitVec.ofFin (Fin.mk 0 (Nat.mod_lt 0 z2)))];
 letI q6:=UInt8.ofBitVec (BitVec.ofFin (Fin.mk 92 (Nat.mod_lt 92 z2)));
 letI q7:=UInt8.ofBitVec (BitVec.ofFin (Fin.mk 54 (Nat.mod_lt 54 z2)));
 letI q9:=Array.mk (x1.1.toList++(ba q3).1.toList);
 letI z:=(0:Int);
 letI p6:=(↑n:Int);
 letI p1:T (SV×List Blk):=.need (z≤p6∧p6 < p6) (.need (p6.toNat < n) (.need ((ba (restA z9)).size+(g p6.toNat).size≤9223372036854775807) (T.stuck 39)));
 letI p2:=y0.size < 64∧z≤z8+y∧z8+y≤(1099511627776:Int);
 letI p3:=Array.mk (key.1.toList++(ba q4).1.toList);
 letI p4:=foldA q q0.toList;
 letI p5:=foldA q q1.toList;
 letI p7:=Lib.repeatL q5.toList z6.toNat;
 letI z0:=Lib.repeatL q5.toList p0.toNat;
 letI z3:=Mac.turn q6 q9.toList;
 letI z4:=Mac.turn q6 p3.toList;
 letI y1:=(26,some (.v (.int .i64 p6)));
 letI y2:=(256:Int);
 letI y3:=(27,some (.v (.int .i64 0)));
 letI y4:=ba (Mac.turn q7 q9.toList);
 letI y5:=ba (Mac.turn q7 p3.toList);
 letI y7:=(9223372036854775807:Int);
 letI y8:=(92:Int);
 letI x0:=(25,some (SV.ref 0));
 letI x2:=shaOf key++ba p7;
 letI x3:=(5,some (.ptr 1 0));
 .ite (decide (x4 > (64:Int))) (.need (key.size≤1000000000000) (.need (z≤i64.wrap q8∧i64.wrap q8≤y7∧p8.size * z6.toNat≤140737488355328) (.need (x1.size+(ba p7).size≤9223372036854775807) (.need (z7.size≤9223372036854775807∧z≤z5∧z5 < y2) (.need (0+y4.size≤9223372036854775807) (.need (p.length=64) (.need (3=3) (.need (St.mk [(0,some (.v (.string x2))),x3,x0,y1,y3] [Blk.row n 1 fun i x=>Value.string (g i),.own [.v (.int .u32 p4.a),.v (.int .u32 p4.b),.v (.int .u32 p4.c),.v (.int .u32 p4.d),.v (.int .u32 p4.e),.v (.int .u32 p4.f),.v (.int .u32 p4.g),.v (.int .u32 p4.h),.v (.string (ba (restA q0.toList))),.v (.int .i64 (i64.wrap (z+(↑y4.size:Int))))],.own [.v (.int .u8 54)]]=stMI x2 n g p 0) (.ite (decide (p6 < p6)) p1 (.need (z7.size≤9223372036854775807∧z≤y8∧y8 < y2) (.need p2 (.need ((ba z3).size+(ba q2).size≤9223372036854775807) (.need ((ba z3++ba q2).size≤1000000000000) (.leaf (.v (.string (shaOf (ba z3++ba q2))),[Blk.row n 1 fun i x=>Value.string (g i)]))))))))))))))) (.need (z≤i64.wrap p9∧i64.wrap p9≤y7∧p8.size * p0.toNat≤140737488355328) (.need (key.size+(ba z0).size≤9223372036854775807) (.need (y9.size≤9223372036854775807∧z≤z5∧z5 < y2) (.need (0+y5.size≤9223372036854775807) (.need (p.length=64) (.need (3=3) (.need (St.mk [(0,some (.v (.string (key++ba z0)))),x3,x0,y1,y3] [Blk.row n 1 fun i x=>Value.string (g i),.own [.v (.int .u32 p5.a),.v (.int .u32 p5.b),.v (.int .u32 p5.c),.v (.int .u32 p5.d),.v (.int .u32 p5.e),.v (.int .u32 p5.f),.v (.int .u32 p5.g),.v (.int .u32 p5.h),.v (.string (ba (restA q1.toList))),.v (.int .i64 (i64.wrap (z+(↑y5.size:Int))))],.own [.v (.int .u8 54)]]=stMI (key++ba z0) n g p 0) (.ite (decide (p6 < p6)) p1 (.need (y9.size≤9223372036854775807∧z≤y8∧y8 < y2) (.need p2 (.need ((ba z4).size+(ba q2).size≤9223372036854775807) (.need ((ba z4++ba q2).size≤1000000000000) (.leaf (.v (.string (shaOf (ba z4++ba q2))),[Blk.row n 1 fun i x=>Value.string (g i)])))))))))))))):=by kernel_rfl
def strsF (f:Nat→Nat→Value) (i:Nat):ByteArray:=strV (f i 0)
def fMac:List SV→List Blk→Option (T (SV×List Blk))
  | [.v (.string key),.ref 0],[.row n 1 f]=>some (.need (n≤maxLen∧key.size≤1000000000000∧(catR (strsF f) n).size≤100000000000∧∀ i,i < n→f i 0 = .string (strsF f i)) (.leaf (.v (.string (macOf key (catR (strsF f) n))),[.row n 1 fun i _=>.string (strsF f i)])))
  | _,_=>none
theorem sum_at (p:List UInt8) (c:ByteArray):ba (txt (foldA (foldA H0 (p++c.data.toList)) (restA (p++c.data.toList)++tail (ba (restA (p++c.data.toList))).size ((p.length:Int)+(c.size:Int)).toNat)))=shaOf (ba p++c):=by
  rw [ba_len,show ((p.length:Int)+(c.size:Int)).toNat=(p++c.data.toList).length by rw [List.length_append,show c.data.toList.length=c.size by simp];omega,sum_pieces]
  unfold shaOf
  rw [ba_app]
  rfl
set_option maxRecDepth 100000 in
theorem fMac_ok:EntryOk Tryz.prog 98 fMac:=by
  intro ss H t ht bs B w vs hm hv0 Qs hq
  unfold fMac at ht
  split at ht
  · rename_i key n f
    simp only [Option.some.injEq] at ht
    subst ht
    obtain ⟨⟨q1,q2,q3,q4⟩,hq⟩:=hq
    have hm:=mem_row_congr hm (k:=0) (g:=fun i _=>.string (strsF f i)) rfl (fun i j hi hj=>by obtain rfl:j=0:=(by omega);exact q4 i hi)
    generalize strsF f=g at hq hm q3
    have hm:Mem w bs [.row n 1 fun i _=>.string (g i)] B w:=hm
    have s0:=keyB_size key
    generalize hp:Mac.turn 54 (padK (keyB key)).data.toList=p
    have hK:=padK_key key
    have hpl:p.length=64:=by rw [← hp,turn_length,show (padK (keyB key)).data.toList.length=(padK (keyB key)).size by simp,padK_size _ s0]
    have hsum:=sum_at p (catR g n)
    have hv:=mac_val key (catR g n) hK
    rw [hp] at hv
    have hrl:=restA_length (p++(catR g n).data.toList)
    refine trimT_ok (CN_ok SMac2_ok) follows Tryz.func98 (by kernel_rfl) (by kernel_rfl) (one_loop (b:=loopAt Tryz.f98 0) (id:=0) (by kernel_rfl) fun st t h=>?_) (macOf_run key n g p) hm hv0 ?_
    · rw [addL_same h]
      exact .str fun key=>.need fun h1=>loop_cnt (CN_ok SMac2_ok) follows (by kernel_rfl) (noloops (by kernel_rfl)) (fun i:Nat=>i≤n) (fun i=>stMI key n g p i) (fun i=>n - i) 3 [0,5,25,26,27] [] [] n [] (stMI_step key n g p q1 (by omega) q3) (Nat.zero_le _)
    clear hm hv0
    by_cases hb:64 < key.size
    · have e:keyB key=shaOf key:=by unfold keyB;rw [if_pos hb]
      rw [e] at hp hK hv
      have s1:(shaOf key).size≤64:=by rw [shaOf_size];omega
      have hw:i64.wrap (64 - ((shaOf key).size:Int))=64 - ((shaOf key).size:Int):=w64 _ (by omega) (by omega)
      have hr:Lib.repeatL [(0:UInt8)] (i64.wrap (64 - ((shaOf key).size:Int))).toNat=List.replicate (64 - (shaOf key).size) 0:=by rw [hw,repeatL_one,show (64 - ((shaOf key).size:Int)).toNat=64 - (shaOf key).size by omega]
      have hKe:(shaOf key)++ba (Lib.repeatL [(0:UInt8)] (i64.wrap (64 - ((shaOf key).size:Int))).toNat)=padK (shaOf key):=by rw [hr];rfl
      have hKz:=padK_size (shaOf key) s1
      have hKl:(padK (shaOf key)).data.toList.length=64:=by rw [show (padK (shaOf key)).data.toList.length=(padK (shaOf key)).size by simp,hKz]
      have m1:(shaOf key).size+(ba (Lib.repeatL [(0:UInt8)] (i64.wrap (64 - ((shaOf key).size:Int))).toNat)).size≤9223372036854775807:=by rw [hr,ba_len,List.length_replicate];omega
      have m2:((shaOf key)++ba (Lib.repeatL [(0:UInt8)] (i64.wrap (64 - ((shaOf key).size:Int))).toNat)).size≤9223372036854775807:=by rw [hKe,hKz];omega
      have m3:0+(ba (Mac.turn 54 ((shaOf key)++ba (Lib.repeatL [(0:UInt8)] (i64.wrap (64 - ((shaOf key).size:Int))).toNat)).data.toList)).size≤9223372036854775807:=by rw [hKe,ba_len,turn_length,hKl];omega
      have m4:stM ((shaOf key)++ba (Lib.repeatL [(0:UInt8)] (i64.wrap (64 - ((shaOf key).size:Int))).toNat)) n g (foldA H0 ([]++Mac.turn 54 ((shaOf key)++ba (Lib.repeatL [(0:UInt8)] (i64.wrap (64 - ((shaOf key).size:Int))).toNat)).data.toList)) (ba (restA ([]++Mac.turn 54 ((shaOf key)++ba (Lib.repeatL [(0:UInt8)] (i64.wrap (64 - ((shaOf key).size:Int))).toNat)).data.toList))) (i64.wrap (0+((ba (Mac.turn 54 ((shaOf key)++ba (Lib.repeatL [(0:UInt8)] (i64.wrap (64 - ((shaOf key).size:Int))).toNat)).data.toList)).size:Int))) 0=stMI ((shaOf key)++ba (Lib.repeatL [(0:UInt8)] (i64.wrap (64 - ((shaOf key).size:Int))).toNat)) n g p 0:=by
        rw [hKe,ba_len,hp,hpl]
        unfold stMI
        rw [show (catR g 0).data.toList=[] from rfl,show (catR g 0).size=0 from rfl,List.append_nil,List.nil_append,hpl]
        rfl
      have m5:(ba (Mac.turn 92 ((shaOf key)++ba (Lib.repeatL [(0:UInt8)] (i64.wrap (64 - ((shaOf key).size:Int))).toNat)).data.toList)).size=64:=by rw [hKe,ba_len,turn_length,hKl]
      have m6:shaOf (ba (Mac.turn 92 ((shaOf key)++ba (Lib.repeatL [(0:UInt8)] (i64.wrap (64 - ((shaOf key).size:Int))).toNat)).data.toList)++ba (txt (foldA (foldA H0 (p++(catR g n).data.toList)) (restA (p++(catR g n).data.toList)++tail (ba (restA (p++(catR g n).data.toList))).size ((p.length:Int)+((catR g n).size:Int)).toNat))))=macOf key (catR g n):=by rw [hKe,hsum];exact hv
      refine ⟨fun _=>⟨q2,⟨by omega,by omega,?_⟩,m1,⟨m2,by omega,by omega⟩,m3,hpl,rfl,m4,(fun h=>?_),fun _=>⟨⟨m2,by omega,by omega⟩,⟨?_,by omega,by omega⟩,?_,?_,?_⟩⟩,fun h=>?_⟩
      · show 1 * _≤_
        rw [hw];omega
      · have h:=of_decide_eq_true h;omega
      · rw [ba_len,hrl];omega
      · refine Nat.le_trans (Nat.add_le_add (Nat.le_of_eq m5) (Nat.le_of_eq ?_)) (m:=64+32) (by omega)
        rw [ba_len,txt_length]
      · rw [ByteArray.size_append]
        refine Nat.le_trans (Nat.add_le_add (Nat.le_of_eq m5) (Nat.le_of_eq ?_)) (m:=64+32) (by omega)
        rw [ba_len,txt_length]
      · rw [← m6] at hq
        exact hq
      · have h:=of_decide_eq_false h;omega
    · have e:keyB key=key:=by unfold keyB;rw [if_neg hb]
      rw [e] at hp hK hv
      have s1:key.size≤64:=by omega
      have hw:i64.wrap (64 - ((key).size:Int))=64 - ((key).size:Int):=w64 _ (by omega) (by omega)
      have hr:Lib.repeatL [(0:UInt8)] (i64.wrap (64 - ((key).size:Int))).toNat=List.replicate (64 - (key).size) 0:=by rw [hw,repeatL_one,show (64 - ((key).size:Int)).toNat=64 - (key).size by omega]
      have hKe:(key)++ba (Lib.repeatL [(0:UInt8)] (i64.wrap (64 - ((key).size:Int))).toNat)=padK (key):=by rw [hr];rfl
      have hKz:=padK_size (key) s1
      have hKl:(padK (key)).data.toList.length=64:=by rw [show (padK (key)).data.toList.length=(padK (key)).size by simp,hKz]
      have m1:(key).size+(ba (Lib.repeatL [(0:UInt8)] (i64.wrap (64 - ((key).size:Int))).toNat)).size≤9223372036854775807:=by rw [hr,ba_len,List.length_replicate];omega
      have m2:((key)++ba (Lib.repeatL [(0:UInt8)] (i64.wrap (64 - ((key).size:Int))).toNat)).size≤9223372036854775807:=by rw [hKe,hKz];omega
      have m3:0+(ba (Mac.turn 54 ((key)++ba (Lib.repeatL [(0:UInt8)] (i64.wrap (64 - ((key).size:Int))).toNat)).data.toList)).size≤9223372036854775807:=by rw [hKe,ba_len,turn_length,hKl];omega
      have m4:stM ((key)++ba (Lib.repeatL [(0:UInt8)] (i64.wrap (64 - ((key).size:Int))).toNat)) n g (foldA H0 ([]++Mac.turn 54 ((key)++ba (Lib.repeatL [(0:UInt8)] (i64.wrap (64 - ((key).size:Int))).toNat)).data.toList)) (ba (restA ([]++Mac.turn 54 ((key)++ba (Lib.repeatL [(0:UInt8)] (i64.wrap (64 - ((key).size:Int))).toNat)).data.toList))) (i64.wrap (0+((ba (Mac.turn 54 ((key)++ba (Lib.repeatL [(0:UInt8)] (i64.wrap (64 - ((key).size:Int))).toNat)).data.toList)).size:Int))) 0=stMI ((key)++ba (Lib.repeatL [(0:UInt8)] (i64.wrap (64 - ((key).size:Int))).toNat)) n g p 0:=by
        rw [hKe,ba_len,hp,hpl]
        unfold stMI
        rw [show (catR g 0).data.toList=[] from rfl,show (catR g 0).size=0 from rfl,List.append_nil,List.nil_append,hpl]
        rfl
      have m5:(ba (Mac.turn 92 ((key)++ba (Lib.repeatL [(0:UInt8)] (i64.wrap (64 - ((key).size:Int))).toNat)).data.toList)).size=64:=by rw [hKe,ba_len,turn_length,hKl]
      have m6:shaOf (ba (Mac.turn 92 ((key)++ba (Lib.repeatL [(0:UInt8)] (i64.wrap (64 - ((key).size:Int))).toNat)).data.toList)++ba (txt (foldA (foldA H0 (p++(catR g n).data.toList)) (restA (p++(catR g n).data.toList)++tail (ba (restA (p++(catR g n).data.toList))).size ((p.length:Int)+((catR g n).size:Int)).toNat))))=macOf key (catR g n):=by rw [hKe,hsum];exact hv
      refine ⟨fun h=>?_,fun _=>⟨⟨by omega,by omega,?_⟩,m1,⟨m2,by omega,by omega⟩,m3,hpl,rfl,m4,(fun h=>?_),fun _=>⟨⟨m2,by omega,by omega⟩,⟨?_,by omega,by omega⟩,?_,?_,?_⟩⟩⟩
      · have h:=of_decide_eq_true h;omega
      · show 1 * _≤_
        rw [hw];omega
      · have h:=of_decide_eq_true h;omega
      · rw [ba_len,hrl];omega
      · refine Nat.le_trans (Nat.add_le_add (Nat.le_of_eq m5) (Nat.le_of_eq ?_)) (m:=64+32) (by omega)
        rw [ba_len,txt_length]
      · rw [ByteArray.size_append]
        refine Nat.le_trans (Nat.add_le_add (Nat.le_of_eq m5) (Nat.le_of_eq ?_)) (m:=64+32) (by omega)
        rw [ba_len,txt_length]
      · rw [← m6] at hq
        exact hq
  · cases ht
end Go.Proofs.YthacfgaacleaeaaGreatDoor
namespace Go.Proofs.YthacfgaacleaeaaGreatDoor
open Go.IntKind (i64 u32)
open Go.RowKit Sym Sha Go.ChangeShapes Go.WideShapes Go.ChangeMaps
def strsL:List Value→Option (List ByteArray)
  | []=>some []
  | .string s :: l=>(match strsL l with | some m=>some (s :: m) | none=>none)
  | _=>none
theorem strsL_eq:∀ {xs:List Value} {l:List ByteArray},strsL xs=some l→xs=l.map .string
  | [],l,h=>by simp only [strsL,Option.some.injEq] at h;subst h;rfl
  | x :: xs,l,h=>by
    cases x with
    | string s =>
      simp only [strsL] at h
      split at h
      · rename_i m hm
        simp only [Option.some.injEq] at h
        subst h
        rw [strsL_eq hm];rfl
      · cases h
    | _=>simp [strsL] at h
def catA:List ByteArray→ByteArray
  | []=>⟨⟨[]⟩⟩
  | s :: l=>s++catA l
def catL:List ByteArray→ByteArray
  | []=>⟨⟨[]⟩⟩
  | [s]=>s
  | s :: l=>s++catL l
theorem catL_eq:∀ l,catL l=catA l
  | []=>rfl
  | [s]=>(app_nil s).symm
  | s :: t :: l=>by
    show s++catL (t :: l)=s++catA (t :: l)
    rw [catL_eq (t :: l)]
theorem catA_snoc:∀ (l:List ByteArray) (s:ByteArray),catA (l++[s])=catA l++s
  | [],s=>(app_nil s).trans (nil_app s).symm
  | t :: l,s=>by
    show t++catA (l++[s])=t++catA l++s
    rw [catA_snoc l s,ByteArray.append_assoc]
theorem catR_list (l:List ByteArray) (g:Nat→ByteArray):∀ n,n≤l.length→(∀ i (h:i < l.length),g i=l[i])→catR g n=catA (l.take n)
  | 0,_,_=>rfl
  | n+1,h,e=>by
    show catR g n++g n=_
    rw [catR_list l g n (by omega) e,List.take_succ_eq_append_getElem (by omega),catA_snoc,e n (by omega)]
def fMacV:List SV→List Blk→Option (T (SV×List Blk))
  | [.v (.string key),.ref 0],[.vec o e 1 n xs]=>(match strsL xs with
    | some l=>bif Nat.beq l.length n then some (.need (n≤maxLen∧key.size≤1000000000000∧(catL l).size≤100000000000) (.leaf (.v (.string (macOf key (catL l))),[.vec o e 1 n xs]))) else none
    | none=>none)
  | ss,H=>fMac ss H
theorem fMacV_ok:EntryOk Tryz.prog 98 fMacV:=by
  intro ss H t ht bs B w vs hm hv Qs hq
  unfold fMacV at ht
  split at ht
  · rename_i key o e n xs
    split at ht
    · rename_i l hl
      cases hb:Nat.beq l.length n
      · rw [hb] at ht;cases ht
      · rw [hb,cond_true,Option.some.injEq] at ht
        have hn:=Nat.eq_of_beq_eq_true hb
        subst ht
        obtain ⟨⟨q1,q2,q3⟩,hq⟩:=hq
        have hx:=strsL_eq hl
        have hf:∀ i (h:i < l.length),strsF (fun i j=>cellAt xs (i * 1+j)) i=l[i]∧cellAt xs (i * 1+0) = .string l[i]:=by
          intro i h
          have:cellAt xs (i * 1+0) = .string l[i]:=by
            rw [hx];unfold cellAt;simp [List.getD_eq_getElem?_getD,h]
          refine ⟨?_,this⟩
          show strV (cellAt xs (i * 1+0))=_
          rw [this];rfl
        have hc:catR (strsF fun i j=>cellAt xs (i * 1+j)) n=catL l:=by
          rw [catR_list l _ n (by omega) (fun i h=>(hf i h).1),catL_eq,List.take_of_length_le (by omega)]
        have hF:LOk Tryz.prog (addF 98 fMac noF):=addF_ok noF_ok (by kernel_rfl) fMac_ok
        have key2:liftG (addF 98 fMac noF) 98 [.v (.string key),.ref 0] (fun k=>[Blk.vec o e 1 n xs][k]?) 1=some (.need (n≤maxLen∧key.size≤1000000000000∧(catR (strsF fun i j=>cellAt xs (i * 1+j)) n).size≤100000000000∧∀ i,i < n→(fun i j=>cellAt xs (i * 1+j)) i 0 = .string (strsF (fun i j=>cellAt xs (i * 1+j)) i)) (.leaf (.v (.string (macOf key (catR (strsF fun i j=>cellAt xs (i * 1+j)) n))),⟨[],[]⟩))):=by kernel_rfl
        refine ((liftG_ok hF _ _ _ _ _ key2).2 w bs _ B w vs hm (fun k x h=>h) rfl hv (fun r=>Qs (r.1,[.vec o e 1 n xs])∧r.2=⟨[],[]⟩) ?_).mono ?_
        · refine ⟨⟨q1,q2,by rw [hc];exact q3,fun i hi=>?_⟩,?_,rfl⟩
          · obtain ⟨h1,h2⟩:=hf i (by omega)
            rw [h1];exact h2
          · rw [hc];exact hq
        · rintro e' w' ⟨s,ef,B',x,⟨h1,rfl⟩,h2,h3,h4,h5⟩
          exact ⟨s,_,B',x,h1,h2,h3,h4,h5⟩
    · cases ht
  · exact fMac_ok _ _ t ht bs B w vs hm hv Qs hq
end Go.Proofs.YthacfgaacleaeaaGreatDoor
namespace Go.Proofs.YthacfgaacleaeaaGreatDoor
open Go.IntKind (i64 u32)
open Go.RowKit Sym Sha Go.ChangeShapes Go.WideShapes Go.ChangeMaps
def FMac:LTab:=addF 98 fMacV noF
theorem FMac_ok:LOk Tryz.prog FMac:=addF_ok noF_ok (by kernel_rfl) fMacV_ok
abbrev CL (P:Program) (S:Tab):Cfg:=both P S FMac [98]
theorem CL_ok {S:Tab} (h:TabOk Tryz.prog S):CfgOk Tryz.prog (CL Tryz.prog S):=both_ok h FMac_ok
def SMac3  : Tab:=SMac2
theorem SMac3_ok:TabOk Tryz.prog (SMac3):=SMac2_ok
set_option maxRecDepth 100000 in
theorem put26_run (s:ByteArray) (n k:Int):runV Tryz.prog (onlyS Tryz.prog SMac3) noL Tryz.f70 [.string s,.int .i64 n,.int .i64 k] = .need ((0:Int)≤IntKind.u64.wrap n∧IntKind.u64.wrap n < (18446744073709551616:Int)∧(0:Int)≤k∧k≤(8:Int)∧s.size≤1099511627776) (.leaf (Value.string (Oct.put s (IntKind.u64.wrap n) k))):=by kernel_rfl
theorem put26 (s:ByteArray) (n k:Int) (h:0≤k∧k≤8∧s.size≤1099511627776) (w:World):Calls Tryz.prog 70 #[.string s,.int .i64 n,.int .i64 k] w fun e w'=>e = .returned (.string (Oct.put s n k))∧Below w.heap.size w w':=by
  refine calls_runV (onlyS_ok SMac3_ok) follows Tryz.func70 (by kernel_rfl) (by kernel_rfl) noL_ok (put26_run s n k) ?_ w
  have hu:=u64_range n
  rw [put_u64]
  exact ⟨⟨hu.1,hu.2,h.1,h.2.1,h.2.2⟩,rfl⟩
def SKey1  : Tab:=addS 70 tOctPut <| SMac3
theorem SKey1_ok:TabOk Tryz.prog (SKey1):=by
  refine addS_ok (SMac3_ok) (by kernel_rfl) ?_
  · (intro xs p v h hp w;unfold tOctPut at h;(split at h) <;> first | (cases h;done) | (simp only [Option.some.injEq,Prod.mk.injEq] at h;obtain ⟨rfl,rfl⟩:=h;exact put26 _ _ _ (hp _ (List.mem_cons_self ..)) w))
set_option maxRecDepth 100000 in
theorem dataText_run (side num trip:Int) (data:ByteArray):runV Tryz.prog (onlyS Tryz.prog SKey1) noL Tryz.f31 [.int .i64 side,.int .i64 num,.int .i64 trip,.string data] =
 letI q1:=(1:Int);
 letI q2:=(6:Int);
 letI q:=Oct.put (Oct.put (ByteArray.mk (Array.mk [UInt8.ofBitVec (BitVec.ofFin (Fin.mk 1 (Nat.mod_lt 1 (BitVec.ofNat._proof_1 8))))])) side q1) num q2;
 letI q0:=ByteArray.mk #[(1:UInt8)];
 letI q3:=(2:Int);
 letI q4:=Oct.put q0 side q1;
 .need ((0:Int)≤q1∧q1≤(8:Int)∧q0.size≤1099511627776) (.need ((0:Int)≤q2∧q2≤(8:Int)∧q4.size≤1099511627776) (.need ((0:Int)≤q3∧q3≤(8:Int)∧(Oct.put q4 num q2).size≤1099511627776) (.need ((Oct.put q trip q3).size+data.size≤9223372036854775807) (.leaf (Value.string (Oct.put q trip q3++data)))))):=by kernel_rfl
set_option maxRecDepth 100000 in
theorem ctlText_run (side num kind addr prio:Int):runV Tryz.prog (onlyS Tryz.prog SKey1) noL Tryz.f37 [.int .i64 side,.agg #[.int .i64 num,.int .i64 kind,.int .i64 addr,.int .i64 prio]] =
 letI q4:=ByteArray.mk #[(2:UInt8)];
 letI q0:=(1:Int);
 letI q:=Oct.put q4 side q0;
 letI q5:=(4:Int);
 letI q1:=Oct.put q num q5;
 letI q2:=(0:Int);
 letI q3:=(8:Int);
 letI q6:=Oct.put q1 kind q0;
 .need (q2≤q0∧q0≤q3∧q4.size≤1099511627776) (.need (q2≤q5∧q5≤q3∧q.size≤1099511627776) (.need (q2≤q0∧q0≤q3∧q1.size≤1099511627776) (.need (q2≤q0∧q0≤q3∧q6.size≤1099511627776) (.need (q2≤q0∧q0≤q3∧(Oct.put q6 addr q0).size≤1099511627776) (.leaf (Value.string (Oct.put (Oct.put (Oct.put (Oct.put (Oct.put (ByteArray.mk (Array.mk [UInt8.ofBitVec (BitVec.ofFin (Fin.mk 2 (Nat.mod_lt 2 (BitVec.ofNat._proof_1 8))))])) side q0) num q5) kind q0) addr q0) prio q0))))))):=by kernel_rfl
set_option maxRecDepth 100000 in
theorem cfmText_run (side num:Int):runV Tryz.prog (onlyS Tryz.prog SKey1) noL Tryz.f39 [.int .i64 side,.int .i64 num] =
 letI q:=ByteArray.mk #[(3:UInt8)];
 letI q0:=(1:Int);
 .need ((0:Int)≤q0∧q0≤(8:Int)∧q.size≤1099511627776) (.need ((0:Int)≤(4:Int)∧(4:Int)≤(8:Int)∧(Oct.put q side q0).size≤1099511627776) (.leaf (Value.string (Oct.put (Oct.put (ByteArray.mk (Array.mk [UInt8.ofBitVec (BitVec.ofFin (Fin.mk 3 (Nat.mod_lt 3 (BitVec.ofNat._proof_1 8))))])) side q0) num (4:Int))))):=by kernel_rfl
set_option maxRecDepth 100000 in
theorem joinText_run (side f t a b:Int):runV Tryz.prog (onlyS Tryz.prog SKey1) noL Tryz.f50 [.int .i64 side,.agg #[.int .i64 f,.int .i64 t],.int .i64 a,.int .i64 b] =
 letI q4:=ByteArray.mk #[(4:UInt8)];
 letI q5:=(1:Int);
 letI q:=Oct.put q4 side q5;
 letI q0:=(4:Int);
 letI q1:=Oct.put (Oct.put q f q0) t q0;
 letI q2:=(0:Int);
 letI q3:=(8:Int);
 .need (q2≤q5∧q5≤q3∧q4.size≤1099511627776) (.need (q2≤q0∧q0≤q3∧q.size≤1099511627776) (.need (q2≤q0∧q0≤q3∧(Oct.put q f q0).size≤1099511627776) (.need (q2≤q0∧q0≤q3∧q1.size≤1099511627776) (.need (q2≤q0∧q0≤q3∧(Oct.put q1 a q0).size≤1099511627776) (.leaf (Value.string (Oct.put (Oct.put (Oct.put (Oct.put (Oct.put (ByteArray.mk (Array.mk [UInt8.ofBitVec (BitVec.ofFin (Fin.mk 4 (Nat.mod_lt 4 (BitVec.ofNat._proof_1 8))))])) side q5) f q0) t q0) a q0) b q0))))))):=by kernel_rfl
set_option maxRecDepth 100000 in
theorem tag26_run (a b x:ByteArray):runV Tryz.prog (onlyS Tryz.prog SKey1) noL Tryz.f30 [.string a,.string b,.string x] = .ite (decide (a=ByteArray.mk (Array.mk []))) (.leaf (Value.string (ByteArray.mk (Array.mk [])))) (.need (a.size+b.size≤9223372036854775807) (.need ((a++b).size≤1000000000000∧x.size≤100000000000) (.leaf (Value.string (macOf (a++b) x))))):=by kernel_rfl
def LTag (P:Program) (C:Cfg) (fn:Func):Nat→St→Option (T (Ex×St)):=addL 0 (unrollB (runC P C noL fn.ntmps (loopAt fn 0)) 0 6) noL
def SKey2 (P:Program) (fKnown:Func):Tab:=addI 35 P (onlyS P noS) noL fKnown SKey1
theorem SKey2_ok:TabOk Tryz.prog (SKey2 Tryz.prog Tryz.f35):=addI_ok SKey1_ok (onlyS_ok noS_ok) follows Tryz.func35 (by kernel_rfl) (by kernel_rfl) (by kernel_rfl) (noloops (by kernel_rfl))
def FKey (P:Program) (fKnown fTag:Func):LTab:=addT 51 (trimE (inl P (CL P (SKey2 P fKnown)) (LTag P (CL P (SKey2 P fKnown)) fTag) fTag)) FMac
theorem FKey_ok:LOk Tryz.prog (FKey Tryz.prog Tryz.f35 Tryz.f51) :=
  addT_ok FMac_ok (by kernel_rfl) (trimE_ok (inl_ok (CL_ok SKey2_ok) follows Tryz.func51 (by kernel_rfl) (by kernel_rfl) (one_loop (b:=loopAt Tryz.f51 0) (id:=0) (by kernel_rfl) fun st t h=>by
    rw [addL_same h];exact unroll_ok (CL_ok SKey2_ok) follows (by kernel_rfl) (noloops (by kernel_rfl)) 6 st)))
abbrev CK (P:Program) (S:Tab) (fKnown fTag:Func):Cfg:=both P S (FKey P fKnown fTag) [98,51]
theorem CK_ok {S:Tab} (h:TabOk Tryz.prog S):CfgOk Tryz.prog (CK Tryz.prog S Tryz.f35 Tryz.f51):=both_ok h FKey_ok
set_option maxRecDepth 100000 in
theorem data_run (a b:ByteArray) (side num trip:Int) (data:ByteArray):runV Tryz.prog (CK Tryz.prog (SKey2 Tryz.prog Tryz.f35) Tryz.f35 Tryz.f51) noL Tryz.f24 [.agg #[.string a,.string b],.int .i64 side,.int .i64 num,.int .i64 trip,.string data] =
 letI p1:=Array.mk [];
 letI q:=ByteArray.mk (Array.mk (p1.toList++Oct.be 1 1));
 letI q0:=ByteArray.mk p1;
 letI q1:=(1:Int);
 letI q2:=ByteArray.mk #[];
 letI q3:=a.size+b.size≤9223372036854775807;
 letI q5:=(0:Int);
 letI q4:=i64.wrap (q5+q1)+q1;
 letI q8:=(6:Int);
 letI q9:=(2:Int);
 letI q6:=Oct.put q side q1++Oct.put q0 num q8++Oct.put q0 trip q9;
 letI q7:=Oct.put q2 q1 q1;
 letI p:=a++b;
 letI p0:=Oct.put q side q1++Oct.put q0 num q8;
 letI p2:=(↑3:Int);
 letI p3:=i64.wrap q4+q1;
 letI p4:=(8:Int);
 letI p5:=Oct.put q side q1;
 .need (q5≤q8∧q8≤p4∧q2.size≤1099511627776) (.need (q5≤q9∧q9≤p4∧q2.size≤1099511627776) (.ite (!!(decide (a=ByteArray.mk p1) && (decide (b=ByteArray.mk p1) && true))) (.leaf (Value.string q0)) (.need (q5≤q1∧q1≤p4∧q2.size≤1099511627776) (.need (q5≤q1∧q1≤p4∧q7.size≤1099511627776) (.ite true (.need (q5≤q5∧q5 < p2) (.need (0 < 3) (.need (p5.size+(Oct.put q0 num q8).size≤9223372036854775807) (.ite true (.need (q5≤i64.wrap (q5+q1)∧i64.wrap (q5+q1) < p2) (.need (1 < 3) (.need (p0.size+(Oct.put q0 trip q9).size≤9223372036854775807) (.ite true (.need (q5≤i64.wrap q4∧i64.wrap q4 < p2) (.need (2 < 3) (.need (q6.size+data.size≤9223372036854775807) (.ite false (.need (q5≤i64.wrap p3∧i64.wrap p3 < p2) (.need (3 < 3) (T.stuck 61))) (.need q3 (.need (1≤maxLen∧p.size≤1000000000000∧(catL [Oct.put q7 side q1++Oct.put q2 num q8++Oct.put q2 trip q9++data]).size≤100000000000) (.leaf (Value.string (macOf p (Oct.put q side q1++Oct.put q0 num q8++Oct.put q0 trip q9++data)))))))))) (.need q3 (.need (1≤maxLen∧p.size≤1000000000000∧(catL [Oct.put q7 side q1++Oct.put q2 num q8++Oct.put q2 trip q9]).size≤100000000000) (.leaf (Value.string (macOf p q6))))))))) (.need q3 (.need (1≤maxLen∧p.size≤1000000000000∧(catL [Oct.put q7 side q1++Oct.put q2 num q8]).size≤100000000000) (.leaf (Value.string (macOf p p0))))))))) (.need q3 (.need (1≤maxLen∧p.size≤1000000000000∧(catL [Oct.put q7 side q1]).size≤100000000000) (.leaf (Value.string (macOf p p5)))))))))):=by kernel_rfl
set_option maxRecDepth 100000 in
theorem cfm_run (a b:ByteArray) (side num:Int):runV Tryz.prog (CK Tryz.prog (SKey2 Tryz.prog Tryz.f35) Tryz.f35 Tryz.f51) noL Tryz.f38 [.agg #[.string a,.string b],.int .i64 side,.int .i64 num] =
 letI q3:=Array.mk [];
 letI q:=ByteArray.mk (Array.mk (q3.toList++Oct.be 3 1));
 letI q4:=ByteArray.mk #[];
 letI q1:=(1:Int);
 letI q0:=Oct.put q4 (3:Int) q1;
 letI q2:=(0:Int);
 letI q5:=a.size+b.size≤9223372036854775807;
 letI q6:=ByteArray.mk q3;
 letI q7:=(4:Int);
 letI q8:=a++b;
 letI q9:=Oct.put q side q1;
 letI p:=(8:Int);
 .need (q2≤q7∧q7≤p∧q4.size≤1099511627776) (.ite (!!(decide (a=ByteArray.mk q3) && (decide (b=ByteArray.mk q3) && true))) (.leaf (Value.string q6)) (.need (q2≤q1∧q1≤p∧q4.size≤1099511627776) (.need (q2≤q1∧q1≤p∧q0.size≤1099511627776) (.ite true (.need (q2≤q2∧q2 < (↑1:Int)) (.need (0 < 1) (.need (q9.size+(Oct.put q6 num q7).size≤9223372036854775807) (.ite false (.need (q2≤i64.wrap (q2+q1)∧i64.wrap (q2+q1) < (↑1:Int)) (.need (1 < 1) (T.stuck 61))) (.need q5 (.need (1≤maxLen∧q8.size≤1000000000000∧(catL [Oct.put q0 side q1++Oct.put q4 num q7]).size≤100000000000) (.leaf (Value.string (macOf q8 (Oct.put q side q1++Oct.put q6 num q7)))))))))) (.need q5 (.need (1≤maxLen∧q8.size≤1000000000000∧(catL [Oct.put q0 side q1]).size≤100000000000) (.leaf (Value.string (macOf q8 q9))))))))):=by kernel_rfl
set_option maxRecDepth 100000 in
theorem ctl_run (a b:ByteArray) (side num kind addr prio:Int):runV Tryz.prog (CK Tryz.prog (SKey2 Tryz.prog Tryz.f35) Tryz.f35 Tryz.f51) (LTag Tryz.prog (CK Tryz.prog (SKey2 Tryz.prog Tryz.f35) Tryz.f35 Tryz.f51) Tryz.f36) Tryz.f36 [.agg #[.string a,.string b],.int .i64 side,.agg #[.int .i64 num,.int .i64 kind,.int .i64 addr,.int .i64 prio]] =
 letI q9:=a.size+b.size≤9223372036854775807;
 letI p7:=a++b;
 letI q3:=ByteArray.mk #[];
 letI q0:=(1:Int);
 letI p1:=Oct.put q3 (2:Int) q0;
 letI p6:=Array.mk [];
 letI q1:=ByteArray.mk (Array.mk (p6.toList++Oct.be 2 1));
 letI p4:=Oct.put q1 side q0;
 letI q:T Value:=.need q9 (.need (1≤maxLen∧p7.size≤1000000000000∧(catL [Oct.put p1 side q0]).size≤100000000000) (.leaf (Value.string (macOf p7 p4))));
 letI q7:=(0:Int);
 letI z3:=q7+q0;
 letI q2:T Value:=.need (q7≤i64.wrap z3∧i64.wrap z3 < (↑1:Int)) (.need (1 < 1) (T.stuck 61));
 letI z2:=ByteArray.mk p6;
 letI p8:=(4:Int);
 letI q4:=Oct.put z2 num p8;
 letI q5:=!!(decide (a=ByteArray.mk p6) && (decide (b=ByteArray.mk p6) && true));
 letI z:=(8:Int);
 letI q6:=q7≤q0∧q0≤z∧p1.size≤1099511627776;
 letI q8:=q7≤q0∧q0≤z∧q3.size≤1099511627776;
 letI p:T Value:=.leaf (Value.string z2);
 letI z0:=Oct.put q3 num p8;
 letI p0:=Oct.put z0 kind q0;
 letI p2:=i64.wrap z3+q0;
 letI p3:=q7≤q7∧q7 < (↑1:Int);
 letI p9:=Oct.put q4 kind q0;
 letI p5:=Oct.put p9 addr q0;
 letI z1:=(↑3:Int);
 letI z4:=i64.wrap p2+q0;
 letI z5:=Oct.put p0 addr q0;
 .need (q7≤p8∧p8≤z∧q3.size≤1099511627776) (.ite true (.need (q7≤q7∧q7 < z1) (.need (0 < 3) (.need (q7≤q0∧q0≤z∧z0.size≤1099511627776) (.ite true (.need (q7≤i64.wrap z3∧i64.wrap z3 < z1) (.need (1 < 3) (.need (q7≤q0∧q0≤z∧p0.size≤1099511627776) (.ite true (.need (q7≤i64.wrap p2∧i64.wrap p2 < z1) (.need (2 < 3) (.need (q7≤q0∧q0≤z∧z5.size≤1099511627776) (.ite false (.need (q7≤i64.wrap z4∧i64.wrap z4 < z1) (.need (3 < 3) (T.stuck 61))) (.ite q5 p (.need q8 (.need q6 (.ite true (.need p3 (.need (0 < 1) (.need (p4.size+(Oct.put p5 prio q0).size≤9223372036854775807) (.ite false q2 (.need q9 (.need (1≤maxLen∧p7.size≤1000000000000∧(catL [Oct.put p1 side q0++Oct.put z5 prio q0]).size≤100000000000) (.leaf (Value.string (macOf p7 (Oct.put q1 side q0++Oct.put p5 prio q0)))))))))) q)))))))) (.ite q5 p (.need q8 (.need q6 (.ite true (.need p3 (.need (0 < 1) (.need (p4.size+p5.size≤9223372036854775807) (.ite false q2 (.need q9 (.need (1≤maxLen∧p7.size≤1000000000000∧(catL [Oct.put p1 side q0++Oct.put p0 addr q0]).size≤100000000000) (.leaf (Value.string (macOf p7 (Oct.put q1 side q0++Oct.put p9 addr q0)))))))))) q)))))))) (.ite q5 p (.need q8 (.need q6 (.ite true (.need p3 (.need (0 < 1) (.need (p4.size+p9.size≤9223372036854775807) (.ite false q2 (.need q9 (.need (1≤maxLen∧p7.size≤1000000000000∧(catL [Oct.put p1 side q0++Oct.put z0 kind q0]).size≤100000000000) (.leaf (Value.string (macOf p7 (Oct.put q1 side q0++Oct.put q4 kind q0)))))))))) q)))))))) (.ite q5 p (.need q8 (.need q6 (.ite true (.need p3 (.need (0 < 1) (.need (p4.size+q4.size≤9223372036854775807) (.ite false q2 (.need q9 (.need (1≤maxLen∧p7.size≤1000000000000∧(catL [Oct.put p1 side q0++Oct.put q3 num p8]).size≤100000000000) (.leaf (Value.string (macOf p7 (Oct.put q1 side q0++Oct.put z2 num p8)))))))))) q))))):=by kernel_rfl
set_option maxRecDepth 100000 in
theorem join_run (a b:ByteArray) (side f t x y:Int):runV Tryz.prog (CK Tryz.prog (SKey2 Tryz.prog Tryz.f35) Tryz.f35 Tryz.f51) (LTag Tryz.prog (CK Tryz.prog (SKey2 Tryz.prog Tryz.f35) Tryz.f35 Tryz.f51) Tryz.f47) Tryz.f47 [.agg #[.string a,.string b],.int .i64 side,.agg #[.int .i64 f,.int .i64 t],.int .i64 x,.int .i64 y] =
 letI p:=a.size+b.size≤9223372036854775807;
 letI p7:=a++b;
 letI q9:=ByteArray.mk #[];
 letI q5:=(4:Int);
 letI q3:=(1:Int);
 letI p3:=Oct.put q9 q5 q3;
 letI p9:=Array.mk [];
 letI q0:=ByteArray.mk (Array.mk (p9.toList++Oct.be 4 1));
 letI p5:=Oct.put q0 side q3;
 letI q:T Value:=.need p (.need (1≤maxLen∧p7.size≤1000000000000∧(catL [Oct.put p3 side q3]).size≤100000000000) (.leaf (Value.string (macOf p7 p5))));
 letI q8:=(0:Int);
 letI z4:=q8+q3;
 letI q1:T Value:=.need (q8≤i64.wrap z4∧i64.wrap z4 < (↑1:Int)) (.need (1 < 1) (T.stuck 61));
 letI z0:=(8:Int);
 letI q2:=q8≤q3∧q3≤z0∧p3.size≤1099511627776;
 letI q4:=!!(decide (a=ByteArray.mk p9) && (decide (b=ByteArray.mk p9) && true));
 letI q6:=q8≤q3∧q3≤z0∧q9.size≤1099511627776;
 letI q7:=ByteArray.mk p9;
 letI p8:=i64.wrap z4+q3;
 letI p0:=i64.wrap p8+q3;
 letI p1:=q8≤q8∧q8 < (↑1:Int);
 letI z3:=Oct.put q7 f q5;
 letI p2:=Oct.put z3 t q5;
 letI z1:=Oct.put q9 f q5;
 letI p4:=Oct.put z1 t q5;
 letI p6:T Value:=.leaf (Value.string q7);
 letI z:=(↑4:Int);
 letI z2:=Oct.put p2 x q5;
 letI z5:=i64.wrap p0+q3;
 letI z6:=0 < 1;
 .ite true (.need (q8≤q8∧q8 < z) (.need (0 < 4) (.need (q8≤q5∧q5≤z0∧q9.size≤1099511627776) (.ite true (.need (q8≤i64.wrap z4∧i64.wrap z4 < z) (.need (1 < 4) (.need (q8≤q5∧q5≤z0∧z1.size≤1099511627776) (.ite true (.need (q8≤i64.wrap p8∧i64.wrap p8 < z) (.need (2 < 4) (.need (q8≤q5∧q5≤z0∧p4.size≤1099511627776) (.ite true (.need (q8≤i64.wrap p0∧i64.wrap p0 < z) (.need (3 < 4) (.need (q8≤q5∧q5≤z0∧(Oct.put p4 x q5).size≤1099511627776) (.ite false (.need (q8≤i64.wrap z5∧i64.wrap z5 < z) (.need (4 < 4) (T.stuck 61))) (.ite q4 p6 (.need q6 (.need q2 (.ite true (.need p1 (.need z6 (.need (p5.size+(Oct.put z2 y q5).size≤9223372036854775807) (.ite false q1 (.need p (.need (1≤maxLen∧p7.size≤1000000000000∧(catL [Oct.put p3 side q3++Oct.put (Oct.put p4 x q5) y q5]).size≤100000000000) (.leaf (Value.string (macOf p7 (Oct.put q0 side q3++Oct.put z2 y q5)))))))))) q)))))))) (.ite q4 p6 (.need q6 (.need q2 (.ite true (.need p1 (.need z6 (.need (p5.size+z2.size≤9223372036854775807) (.ite false q1 (.need p (.need (1≤maxLen∧p7.size≤1000000000000∧(catL [Oct.put p3 side q3++Oct.put p4 x q5]).size≤100000000000) (.leaf (Value.string (macOf p7 (Oct.put q0 side q3++Oct.put p2 x q5)))))))))) q)))))))) (.ite q4 p6 (.need q6 (.need q2 (.ite true (.need p1 (.need z6 (.need (p5.size+p2.size≤9223372036854775807) (.ite false q1 (.need p (.need (1≤maxLen∧p7.size≤1000000000000∧(catL [Oct.put p3 side q3++Oct.put z1 t q5]).size≤100000000000) (.leaf (Value.string (macOf p7 (Oct.put q0 side q3++Oct.put z3 t q5)))))))))) q)))))))) (.ite q4 p6 (.need q6 (.need q2 (.ite true (.need p1 (.need z6 (.need (p5.size+z3.size≤9223372036854775807) (.ite false q1 (.need p (.need (1≤maxLen∧p7.size≤1000000000000∧(catL [Oct.put p3 side q3++Oct.put q9 f q5]).size≤100000000000) (.leaf (Value.string (macOf p7 (Oct.put q0 side q3++Oct.put q7 f q5)))))))))) q)))))))) (.ite q4 p6 (.need q6 (.need q2 (.ite true (.need p1 (.need z6 (.need (p5.size+0≤9223372036854775807) (.ite false q1 (.need p (.need (1≤maxLen∧p7.size≤1000000000000∧(catL [Oct.put p3 side q3++ByteArray.mk #[]]).size≤100000000000) (.leaf (Value.string (macOf p7 (Oct.put q0 side q3++ByteArray.mk p9)))))))))) q)))):=by kernel_rfl
end Go.Proofs.YthacfgaacleaeaaGreatDoor
namespace Go.Proofs.YthacfgaacleaeaaGreatDoor
open Go.IntKind (i64 u32)
open Go.RowKit Sym Sha Go.ChangeShapes Go.WideShapes Go.ChangeMaps
theorem put_split (s:ByteArray) (n:Int) (k:Int):Oct.put s n k=s++Oct.put ⟨⟨[]⟩⟩ n k:=by
  apply ByteArray.ext
  apply Array.toList_inj.1
  rw [ByteArray.data_append]
  simp [Oct.put]
theorem put_sz (s:ByteArray) (n k:Int):(Oct.put s n k).size=s.size+k.toNat:=Oct.put_size s n k
def dataText (side num trip:Int) (data:ByteArray):ByteArray:=Oct.put (Oct.put (Oct.put (ba [1]) side 1) num 6) trip 2++data
def ctlText (side num kind addr prio:Int):ByteArray:=Oct.put (Oct.put (Oct.put (Oct.put (Oct.put (ba [2]) side 1) num 4) kind 1) addr 1) prio 1
def cfmText (side num:Int):ByteArray:=Oct.put (Oct.put (ba [3]) side 1) num 4
def joinText (side f t a b:Int):ByteArray:=Oct.put (Oct.put (Oct.put (Oct.put (Oct.put (ba [4]) side 1) f 4) t 4) a 4) b 4
theorem dataText_size (side num trip:Int) (data:ByteArray):(dataText side num trip data).size=10+data.size:=by unfold dataText;rw [ByteArray.size_append,put_sz,put_sz,put_sz,ba_len];rfl
theorem ctlText_size (side num kind addr prio:Int):(ctlText side num kind addr prio).size=9:=by unfold ctlText;rw [put_sz,put_sz,put_sz,put_sz,put_sz,ba_len];rfl
theorem cfmText_size (side num:Int):(cfmText side num).size=6:=by unfold cfmText;rw [put_sz,put_sz,ba_len];rfl
theorem joinText_size (side f t a b:Int):(joinText side f t a b).size=18:=by unfold joinText;rw [put_sz,put_sz,put_sz,put_sz,put_sz,ba_len];rfl
theorem b1 (k:List UInt8):(ByteArray.mk ⟨k⟩).size=k.length:=ba_len k
theorem ref26_data (side num trip:Int) (data:ByteArray) (h:data.size≤1000000) (w:World):Calls Tryz.prog 31 #[.int .i64 side,.int .i64 num,.int .i64 trip,.string data] w fun e w'=>e = .returned (.string (dataText side num trip data))∧Below w.heap.size w w':=by
  refine calls_runV (onlyS_ok SKey1_ok) follows Tryz.func31 (by kernel_rfl) (by kernel_rfl) noL_ok (dataText_run side num trip data) ?_ w
  simp only [T.ok,put_sz,b1,List.length_cons,List.length_nil]
  refine ⟨by omega,?_,?_,?_,rfl⟩ <;> omega
theorem ref26_ctl (side num kind addr prio:Int) (w:World):Calls Tryz.prog 37 #[.int .i64 side,.agg #[.int .i64 num,.int .i64 kind,.int .i64 addr,.int .i64 prio]] w fun e w'=>e = .returned (.string (ctlText side num kind addr prio))∧Below w.heap.size w w':=by
  refine calls_runV (onlyS_ok SKey1_ok) follows Tryz.func37 (by kernel_rfl) (by kernel_rfl) noL_ok (ctlText_run side num kind addr prio) ?_ w
  simp only [T.ok,put_sz,b1,List.length_cons,List.length_nil]
  refine ⟨by omega,?_,?_,?_,?_,rfl⟩ <;> omega
theorem ref26_cfm (side num:Int) (w:World):Calls Tryz.prog 39 #[.int .i64 side,.int .i64 num] w fun e w'=>e = .returned (.string (cfmText side num))∧Below w.heap.size w w':=by
  refine calls_runV (onlyS_ok SKey1_ok) follows Tryz.func39 (by kernel_rfl) (by kernel_rfl) noL_ok (cfmText_run side num) ?_ w
  simp only [T.ok,put_sz,b1,List.length_cons,List.length_nil]
  refine ⟨by omega,?_,rfl⟩ <;> omega
theorem ref26_join (side f t a b:Int) (w:World):Calls Tryz.prog 50 #[.int .i64 side,.agg #[.int .i64 f,.int .i64 t],.int .i64 a,.int .i64 b] w fun e w'=>e = .returned (.string (joinText side f t a b))∧Below w.heap.size w w':=by
  refine calls_runV (onlyS_ok SKey1_ok) follows Tryz.func50 (by kernel_rfl) (by kernel_rfl) noL_ok (joinText_run side f t a b) ?_ w
  simp only [T.ok,put_sz,b1,List.length_cons,List.length_nil]
  refine ⟨by omega,?_,?_,?_,?_,rfl⟩ <;> omega
def nilB:ByteArray:=⟨⟨[]⟩⟩
def tagP (a b x:ByteArray):ByteArray:=if a=nilB∧b=nilB then nilB else macOf (a++b) x
def tagR (a b x:ByteArray):ByteArray:=if a=nilB then nilB else macOf (a++b) x
theorem ref26_tag (a b x:ByteArray) (h:a.size≤1000∧b.size≤1000∧x.size≤1000000000) (w:World):Calls Tryz.prog 30 #[.string a,.string b,.string x] w fun e w'=>e = .returned (.string (tagR a b x))∧Below w.heap.size w w':=by
  refine calls_runV (onlyS_ok SKey1_ok) follows Tryz.func30 (by kernel_rfl) (by kernel_rfl) noL_ok (tag26_run a b x) ?_ w
  have e:(a++b).size=a.size+b.size:=by rw [ByteArray.size_append]
  refine ⟨fun h=>?_,fun h=>⟨by omega,⟨by omega,by omega⟩,?_⟩⟩
  · have h:a=nilB:=of_decide_eq_true h
    show Value.string nilB=_
    unfold tagR;rw [if_pos h]
  · have h:¬ a=nilB:=of_decide_eq_false h
    show Value.string _=_
    unfold tagR;rw [if_neg h]
theorem wr1:i64.wrap (0+1)=1:=by decide
theorem wr2:i64.wrap (1+1)=2:=by decide
theorem wr3:i64.wrap (2+1)=3:=by decide
theorem wr4:i64.wrap (3+1)=4:=by decide
theorem known_if {a b x:ByteArray} (hb:(!!(decide (a=ByteArray.mk (Array.mk [])) && (decide (b=ByteArray.mk (Array.mk [])) && true)))=true):Value.string nilB=Value.string (tagP a b x):=by
  have h:a=nilB∧b=nilB:=by simpa [nilB] using hb
  unfold tagP;rw [if_pos h]
theorem keys_Data (a b:ByteArray) (side num trip:Int) (data:ByteArray) (h:a.size≤1000∧b.size≤1000∧data.size≤1000000) (w:World):Calls Tryz.prog 24 #[.agg #[.string a,.string b],.int .i64 side,.int .i64 num,.int .i64 trip,.string data] w fun e w'=>e = .returned (.string (tagP a b (dataText side num trip data)))∧Below w.heap.size w w':=by
  refine calls_runV (CK_ok SKey2_ok) follows Tryz.func24 (by kernel_rfl) (by kernel_rfl) (noloops (by kernel_rfl)) (data_run a b side num trip data) ?_ w
  have et:Oct.put (ByteArray.mk ⟨[]++Oct.be 1 1⟩) side 1++Oct.put ⟨⟨[]⟩⟩ num 6++Oct.put ⟨⟨[]⟩⟩ trip 2++data=dataText side num trip data:=by
    unfold dataText
    rw [← put_split,← put_split];rfl
  have es:=dataText_size side num trip data
  have hc:(catL [Oct.put (ByteArray.mk ⟨[]++Oct.be 1 1⟩) side 1++Oct.put ⟨⟨[]⟩⟩ num 6++Oct.put ⟨⟨[]⟩⟩ trip 2++data]).size≤100000000000:=by
    show (Oct.put (ByteArray.mk ⟨[]++Oct.be 1 1⟩) side 1++Oct.put ⟨⟨[]⟩⟩ num 6++Oct.put ⟨⟨[]⟩⟩ trip 2++data).size≤_
    rw [et,es];omega
  have hm:1≤maxLen:=by decide
  have hv:¬ (a=nilB∧b=nilB)→Value.string (macOf (a++b) (Oct.put (ByteArray.mk ⟨[]++Oct.be 1 1⟩) side 1++Oct.put ⟨⟨[]⟩⟩ num 6++Oct.put ⟨⟨[]⟩⟩ trip 2++data))=Value.string (tagP a b (dataText side num trip data)):=fun hn=>by rw [et];unfold tagP;rw [if_neg hn]
  have kf:(!!(decide (a=ByteArray.mk (Array.mk [])) && (decide (b=ByteArray.mk (Array.mk [])) && true)))=false→¬ (a=nilB∧b=nilB):=fun hb=>by simpa [nilB] using hb
  simp only [T.ok,wr1,wr2,wr3,wr4,put_sz,b1,ByteArray.size_append,List.length_cons,List.length_nil,List.length_append,Oct.be_length,Bool.true_eq_false,Bool.false_eq_true,reduceCtorEq,false_implies,true_implies,and_true,true_and]
  repeat' (first | refine And.intro ?_ ?_ | intro _)
  all_goals first | omega | contradiction | exact hm | exact hc | exact hv (kf (by assumption)) | exact known_if (by assumption) | skip
theorem keys_Confirm (a b:ByteArray) (side num:Int) (h:a.size≤1000∧b.size≤1000) (w:World):Calls Tryz.prog 38 #[.agg #[.string a,.string b],.int .i64 side,.int .i64 num] w fun e w'=>e = .returned (.string (tagP a b (cfmText side num)))∧Below w.heap.size w w':=by
  refine calls_runV (CK_ok SKey2_ok) follows Tryz.func38 (by kernel_rfl) (by kernel_rfl) (noloops (by kernel_rfl)) (cfm_run a b side num) ?_ w
  have et:Oct.put (ByteArray.mk ⟨[]++Oct.be 3 1⟩) side 1++Oct.put ⟨⟨[]⟩⟩ num 4=cfmText side num:=by
    unfold cfmText
    rw [← put_split];rfl
  have es:=cfmText_size side num
  have hc:(catL [Oct.put (ByteArray.mk ⟨[]++Oct.be 3 1⟩) side 1++Oct.put ⟨⟨[]⟩⟩ num 4]).size≤100000000000:=by
    show (Oct.put (ByteArray.mk ⟨[]++Oct.be 3 1⟩) side 1++Oct.put ⟨⟨[]⟩⟩ num 4).size≤_
    rw [et,es];omega
  have hm:1≤maxLen:=by decide
  have hv:¬ (a=nilB∧b=nilB)→Value.string (macOf (a++b) (Oct.put (ByteArray.mk ⟨[]++Oct.be 3 1⟩) side 1++Oct.put ⟨⟨[]⟩⟩ num 4))=Value.string (tagP a b (cfmText side num)):=fun hn=>by rw [et];unfold tagP;rw [if_neg hn]
  have kf:(!!(decide (a=ByteArray.mk (Array.mk [])) && (decide (b=ByteArray.mk (Array.mk [])) && true)))=false→¬ (a=nilB∧b=nilB):=fun hb=>by simpa [nilB] using hb
  simp only [T.ok,wr1,wr2,wr3,wr4,put_sz,b1,ByteArray.size_append,List.length_cons,List.length_nil,List.length_append,Oct.be_length,Bool.true_eq_false,Bool.false_eq_true,reduceCtorEq,false_implies,true_implies,and_true,true_and]
  repeat' (first | refine And.intro ?_ ?_ | intro _)
  all_goals first | omega | contradiction | exact hm | exact hc | exact hv (kf (by assumption)) | exact known_if (by assumption) | skip
set_option maxHeartbeats 800000 in
theorem keys_Control (a b:ByteArray) (side num kind addr prio:Int) (h:a.size≤1000∧b.size≤1000) (w:World):Calls Tryz.prog 36 #[.agg #[.string a,.string b],.int .i64 side,.agg #[.int .i64 num,.int .i64 kind,.int .i64 addr,.int .i64 prio]] w fun e w'=>e = .returned (.string (tagP a b (ctlText side num kind addr prio)))∧Below w.heap.size w w':=by
  refine calls_runV (CK_ok SKey2_ok) follows Tryz.func36 (by kernel_rfl) (by kernel_rfl) (one_loop (b:=loopAt Tryz.f36 0) (id:=0) (by kernel_rfl) fun st t h=>by rw [addL_same h];exact unroll_ok (CK_ok SKey2_ok) follows (by kernel_rfl) (noloops (by kernel_rfl)) 6 st) (ctl_run a b side num kind addr prio) ?_ w
  have et:Oct.put (ByteArray.mk ⟨[]++Oct.be 2 1⟩) side 1++Oct.put (Oct.put (Oct.put (Oct.put ⟨⟨[]⟩⟩ num 4) kind 1) addr 1) prio 1=ctlText side num kind addr prio:=by
    unfold ctlText
    rw [put_split (Oct.put (Oct.put (Oct.put ⟨⟨[]⟩⟩ num 4) kind 1) addr 1),put_split (Oct.put (Oct.put ⟨⟨[]⟩⟩ num 4) kind 1),put_split (Oct.put ⟨⟨[]⟩⟩ num 4),← ByteArray.append_assoc,← ByteArray.append_assoc,← ByteArray.append_assoc,← put_split,← put_split,← put_split,← put_split];rfl
  have es:=ctlText_size side num kind addr prio
  have hc:(catL [Oct.put (ByteArray.mk ⟨[]++Oct.be 2 1⟩) side 1++Oct.put (Oct.put (Oct.put (Oct.put ⟨⟨[]⟩⟩ num 4) kind 1) addr 1) prio 1]).size≤100000000000:=by
    show (Oct.put (ByteArray.mk ⟨[]++Oct.be 2 1⟩) side 1++Oct.put (Oct.put (Oct.put (Oct.put ⟨⟨[]⟩⟩ num 4) kind 1) addr 1) prio 1).size≤_
    rw [et,es];omega
  have hm:1≤maxLen:=by decide
  have hv:¬ (a=nilB∧b=nilB)→Value.string (macOf (a++b) (Oct.put (ByteArray.mk ⟨[]++Oct.be 2 1⟩) side 1++Oct.put (Oct.put (Oct.put (Oct.put ⟨⟨[]⟩⟩ num 4) kind 1) addr 1) prio 1))=Value.string (tagP a b (ctlText side num kind addr prio)):=fun hn=>by rw [et];unfold tagP;rw [if_neg hn]
  have kf:(!!(decide (a=ByteArray.mk (Array.mk [])) && (decide (b=ByteArray.mk (Array.mk [])) && true)))=false→¬ (a=nilB∧b=nilB):=fun hb=>by simpa [nilB] using hb
  simp only [T.ok,wr1,wr2,wr3,wr4,put_sz,b1,ByteArray.size_append,List.length_cons,List.length_nil,List.length_append,Oct.be_length,Bool.true_eq_false,Bool.false_eq_true,reduceCtorEq,false_implies,true_implies,and_true,true_and]
  repeat' (first | refine And.intro ?_ ?_ | intro _)
  all_goals first | omega | contradiction | exact hm | exact hc | exact hv (kf (by assumption)) | exact known_if (by assumption) | skip
set_option maxHeartbeats 800000 in
theorem keys_Join (a b:ByteArray) (side f t x y:Int) (h:a.size≤1000∧b.size≤1000) (w:World):Calls Tryz.prog 47 #[.agg #[.string a,.string b],.int .i64 side,.agg #[.int .i64 f,.int .i64 t],.int .i64 x,.int .i64 y] w fun e w'=>e = .returned (.string (tagP a b (joinText side f t x y)))∧Below w.heap.size w w':=by
  refine calls_runV (CK_ok SKey2_ok) follows Tryz.func47 (by kernel_rfl) (by kernel_rfl) (one_loop (b:=loopAt Tryz.f47 0) (id:=0) (by kernel_rfl) fun st t h=>by rw [addL_same h];exact unroll_ok (CK_ok SKey2_ok) follows (by kernel_rfl) (noloops (by kernel_rfl)) 6 st) (join_run a b side f t x y) ?_ w
  have et:Oct.put (ByteArray.mk ⟨[]++Oct.be 4 1⟩) side 1++Oct.put (Oct.put (Oct.put (Oct.put ⟨⟨[]⟩⟩ f 4) t 4) x 4) y 4=joinText side f t x y:=by
    unfold joinText
    rw [put_split (Oct.put (Oct.put (Oct.put ⟨⟨[]⟩⟩ f 4) t 4) x 4),put_split (Oct.put (Oct.put ⟨⟨[]⟩⟩ f 4) t 4),put_split (Oct.put ⟨⟨[]⟩⟩ f 4),← ByteArray.append_assoc,← ByteArray.append_assoc,← ByteArray.append_assoc,← put_split,← put_split,← put_split,← put_split];rfl
  have es:=joinText_size side f t x y
  have hc:(catL [Oct.put (ByteArray.mk ⟨[]++Oct.be 4 1⟩) side 1++Oct.put (Oct.put (Oct.put (Oct.put ⟨⟨[]⟩⟩ f 4) t 4) x 4) y 4]).size≤100000000000:=by
    show (Oct.put (ByteArray.mk ⟨[]++Oct.be 4 1⟩) side 1++Oct.put (Oct.put (Oct.put (Oct.put ⟨⟨[]⟩⟩ f 4) t 4) x 4) y 4).size≤_
    rw [et,es];omega
  have hm:1≤maxLen:=by decide
  have hv:¬ (a=nilB∧b=nilB)→Value.string (macOf (a++b) (Oct.put (ByteArray.mk ⟨[]++Oct.be 4 1⟩) side 1++Oct.put (Oct.put (Oct.put (Oct.put ⟨⟨[]⟩⟩ f 4) t 4) x 4) y 4))=Value.string (tagP a b (joinText side f t x y)):=fun hn=>by rw [et];unfold tagP;rw [if_neg hn]
  have kf:(!!(decide (a=ByteArray.mk (Array.mk [])) && (decide (b=ByteArray.mk (Array.mk [])) && true)))=false→¬ (a=nilB∧b=nilB):=fun hb=>by simpa [nilB] using hb
  simp only [T.ok,wr1,wr2,wr3,wr4,put_sz,b1,ByteArray.size_append,List.length_cons,List.length_nil,List.length_append,Oct.be_length,Bool.true_eq_false,Bool.false_eq_true,reduceCtorEq,false_implies,true_implies,and_true,true_and]
  repeat' (first | refine And.intro ?_ ?_ | intro _)
  all_goals first | omega | contradiction | exact hm | exact hc | exact hv (kf (by assumption)) | exact known_if (by assumption) | skip
def tDataText:List Value→Option (List Prop×Value) | [.int .i64 a,.int .i64 b,.int .i64 c,.string d]=>some ([d.size≤1000000],.string (dataText a b c d)) | _=>none
def tCtlText:List Value→Option (List Prop×Value) | [.int .i64 a,.agg ⟨[.int .i64 b,.int .i64 c,.int .i64 d,.int .i64 e]⟩]=>some ([],.string (ctlText a b c d e)) | _=>none
def tCfmText:List Value→Option (List Prop×Value) | [.int .i64 a,.int .i64 b]=>some ([],.string (cfmText a b)) | _=>none
def tJoinText:List Value→Option (List Prop×Value) | [.int .i64 a,.agg ⟨[.int .i64 b,.int .i64 c]⟩,.int .i64 d,.int .i64 e]=>some ([],.string (joinText a b c d e)) | _=>none
def tTagR:List Value→Option (List Prop×Value) | [.string a,.string b,.string x]=>some ([a.size≤1000∧b.size≤1000∧x.size≤1000000000],.string (tagR a b x)) | _=>none
def tData:List Value→Option (List Prop×Value) | [.agg ⟨[.string a,.string b]⟩,.int .i64 x,.int .i64 y,.int .i64 z,.string d]=>some ([a.size≤1000∧b.size≤1000∧d.size≤1000000],.string (tagP a b (dataText x y z d))) | _=>none
def tCtl:List Value→Option (List Prop×Value) | [.agg ⟨[.string a,.string b]⟩,.int .i64 x,.agg ⟨[.int .i64 b1,.int .i64 c,.int .i64 d,.int .i64 e]⟩]=>some ([a.size≤1000∧b.size≤1000],.string (tagP a b (ctlText x b1 c d e))) | _=>none
def tCfm:List Value→Option (List Prop×Value) | [.agg ⟨[.string a,.string b]⟩,.int .i64 x,.int .i64 y]=>some ([a.size≤1000∧b.size≤1000],.string (tagP a b (cfmText x y))) | _=>none
def tJoin:List Value→Option (List Prop×Value) | [.agg ⟨[.string a,.string b]⟩,.int .i64 x,.agg ⟨[.int .i64 f,.int .i64 t]⟩,.int .i64 y,.int .i64 z]=>some ([a.size≤1000∧b.size≤1000],.string (tagP a b (joinText x f t y z))) | _=>none
def okK (a b:ByteArray):Bool:=Nat.beq a.size 8 && Nat.beq b.size 8
def kA (a b:ByteArray):ByteArray:=if okK a b=true then a else nilB
def kB (a b:ByteArray):ByteArray:=if okK a b=true then b else nilB
def kE (a b:ByteArray):Int:=if okK a b=true then 0 else 11
theorem okK_iff (a b:ByteArray):okK a b=true ↔ a.size=8∧b.size=8:=by unfold okK;rw [Bool.and_eq_true,Nat.beq_eq,Nat.beq_eq]
set_option maxRecDepth 100000 in
theorem new_run (a b:ByteArray):runV Tryz.prog (onlyS Tryz.prog noS) noL Tryz.f23 [.string a,.string b] =
 letI q0:=Value.string (ByteArray.mk (Array.mk []));
 letI q:T Value:=.leaf (Value.tuple (Array.mk [Value.agg (Array.mk [q0,q0]),Value.int i64 11]));
 .ite (!decide ((↑a.size:Int)=(8:Int))) q (.ite (!decide ((↑b.size:Int)=(8:Int))) q (.leaf (Value.tuple (Array.mk [Value.agg (Array.mk [Value.string a,Value.string b]),Value.int i64 0])))):=by kernel_rfl
theorem keys_New (a b:ByteArray) (w:World):Calls Tryz.prog 23 #[.string a,.string b] w fun e w'=>e = .returned (.tuple #[.agg #[.string (kA a b),.string (kB a b)],.int .i64 (kE a b)])∧Below w.heap.size w w':=by
  refine calls_runV (onlyS_ok noS_ok) follows Tryz.func23 (by kernel_rfl) (by kernel_rfl) noL_ok (new_run a b) ?_ w
  have hk:=okK_iff a b
  unfold kA kB kE
  cases ho:okK a b
  · have hn:¬ (a.size=8∧b.size=8):=fun h=>by rw [ho] at hk;exact absurd (hk.2 h) (by decide)
    refine ⟨fun _=>rfl,fun h1=>⟨fun _=>rfl,fun h2=>?_⟩⟩
    have:=ndf h1
    have:=ndf h2
    exact (hn ⟨by omega,by omega⟩).elim
  · have hy:=hk.1 ho
    refine ⟨fun h=>(ndt h (by omega)).elim,fun h1=>⟨fun h=>(ndt h (by omega)).elim,fun _=>rfl⟩⟩
theorem kAB {a b:ByteArray} (ha:a.size=8) (hb:b.size=8):kA a b=a∧kB a b=b∧kE a b=0:=by
  have:=(okK_iff a b).2 ⟨ha,hb⟩
  unfold kA kB kE
  rw [if_pos this,if_pos this,if_pos this]
  exact ⟨rfl,rfl,rfl⟩
end Go.Proofs.YthacfgaacleaeaaGreatDoor

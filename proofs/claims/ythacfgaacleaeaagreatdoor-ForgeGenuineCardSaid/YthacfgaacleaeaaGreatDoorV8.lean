/- Parts of a proof: FhF,FhS,FhG,FhT,FhD,FhE,FhU,FhW. No conditions. -/
import Derived.Test.YthacfgaacleaeaaGreatDoorV7
import Derived.Test.YthacfgaacleaeaaGreatDoorTie
import Derived.LaidMore
import Derived.LaidHandle
import Derived.Stop.LaidErr
import Derived.SliceStrings
import Derived.ChangeMaps5
import Derived.Laws.BytesArg
import Derived.MapKept
import Derived.Deep.RegionWith
set_option linter.unusedVariables false
set_option linter.unusedSimpArgs false
namespace Go.Proofs.YthacfgaacleaeaaGreatDoor
open Go.IntKind (i64 u32)
open Go.RowKit Sym Go.ChangeShapes Go.WideShapes Go.ChangeMaps
def gotL (s:ByteArray):List Op:=optsOf (optS s)
def GetP (s:ByteArray) (x y:Int) (w:World) (e:Ending):Prop :=
  (errG s x y=0∧∃ u,e = .returned (.tuple #[(pkG s).v u,.int .i64 0])∧∀ B,BlkSat B w u (.row (gotL s).length 2 fun i j=>(opN (gotL s) i).c j)) ∨
  (errG s x y ≠ 0∧e = .returned (.tuple #[nonePk.v (.slice none 0 0),.int .i64 (errG s x y)]))
theorem get_world {k:FuncId} (hk:EntryOk Tryz.prog k fPGet) {s:ByteArray} {x y:Int} (hs:s.size≤4000) (w:World):Calls Tryz.prog k #[.string s,.agg #[.int .i64 x,.int .i64 y]] w fun e w'=>GetP s x y w' e∧Below w.heap.size w w':=by
  refine (hk [.v (.string s),.v (.agg ⟨[.int .i64 x,.int .i64 y]⟩)] [] _ rfl [] [] w [.string s,.agg ⟨[.int .i64 x,.int .i64 y]⟩] (mem_none w) rfl
    (fun r=>(errG s x y=0∧r=(.tup [(pkG s).s (.ref 0),.v (.int .i64 0)],[.vec true 70 2 (gotL s).length (opCells (gotL s))])) ∨ (errG s x y ≠ 0∧r=(.v (.tuple #[nonePk.v (.slice none 0 0),.int .i64 (errG s x y)]),[]))) ?_).mono ?_
  · exact ⟨hs,fun h=>.inl ⟨of_decide_eq_true h,rfl⟩,fun h=>.inr ⟨of_decide_eq_false h,rfl⟩⟩
  · rintro e w' ⟨r,H',B',v,hr,-,rfl,hv,hm⟩
    refine ⟨?_,hm.keeps.below⟩
    rcases hr with ⟨h0,hr⟩ | ⟨h0,hr⟩
    · simp only [Prod.mk.injEq] at hr
      obtain ⟨rfl,rfl⟩:=hr
      obtain ⟨u,hu⟩:=hm.sat.getB (k:=0) rfl
      have hb:=hm.sat.blk 0 _ u rfl hu
      refine .inl ⟨h0,u,?_,?_⟩
      · have e1:SV.to B' ((pkG s).s (.ref 0))=some ((pkG s).v u):=Pk.s_to (pkG s) hu
        simp only [SV.to,SV.tos] at hv
        have e2:SV.to B' (.agg [.v (.int .i64 (pkG s).kind),.v (.bool (pkG s).long),.v (.int .i64 (pkG s).src),.v (.int .i64 (pkG s).dst),.v (.int .i64 (pkG s).ccval),.v (.int .i64 (pkG s).cover),.v (.int .i64 (pkG s).seq),.v (.int .i64 (pkG s).ack),.v (.int .i64 (pkG s).service),.v (.int .i64 (pkG s).code),.v (.int .i64 (pkG s).detail),.ref 0,.v (.string (pkG s).data)])=some ((pkG s).v u):=e1
        simp only [SV.to,SV.tos] at e2
        rw [hu] at hv e2
        simp only [Option.map_some,Option.some.injEq] at hv e2
        rw [← hv,e2]
      · intro B
        have h2:BlkSat B w' u (.row (gotL s).length 2 fun i j=>cellAt (opCells (gotL s)) (i * 2+j)):=rowBlk_sat (show BlkSat B w' u (.vec true 70 2 (gotL s).length (opCells (gotL s))) from hb)
        refine row_congr h2 fun i j hi hj=>?_
        obtain ⟨e0,e1⟩:=opCells_at (gotL s) i hi
        match j,hj with
        | 0,_=>exact e0
        | 1,_=>exact e1
    · simp only [Prod.mk.injEq] at hr
      obtain ⟨rfl,rfl⟩:=hr
      simp only [SV.to,Option.some.injEq] at hv
      subst hv
      exact .inr ⟨h0,rfl⟩
theorem ext_le (s:ByteArray) (a b:Nat):(s.extract a b).size≤s.size:=by rw [ByteArray.size_extract];omega
theorem optS_le (s:ByteArray):(optS s).size≤s.size:=by
  have h1:(aheadS s).size≤s.size:=by
    unfold aheadS
    split
    · exact ext_le _ _ _
    · exact Nat.zero_le _
  exact Nat.le_trans (ext_le _ _ _) (Nat.le_trans (ext_le _ _ _) h1)
theorem dataS_le (s:ByteArray):(dataS s).size≤s.size:=by
  unfold dataS
  split
  · exact ext_le _ _ _
  · exact Nat.zero_le _
theorem pkG_data (s:ByteArray):(pkG s).data=dataS s:=by
  unfold pkG fldR pk0
  rfl
theorem few_got (s:ByteArray) (hs:s.size≤1000):Few (gotL s).length (opN (gotL s)):=by
  have h:=optsOf_P (optS s) (Nat.le_trans (optS_le s) hs)
  refine ⟨h.2.1,fun i hi=>?_⟩
  have:=h.2.2 i hi
  rw [(opCells_row (optsOf (optS s))).2 i hi] at this
  exact this
end Go.Proofs.YthacfgaacleaeaaGreatDoor
namespace Go.Proofs.YthacfgaacleaeaaGreatDoor
open Go.IntKind (i64 u32)
open Go.RowKit Sym Sha Inet
theorem fold_back (T:Int) (h:0 < T):foldN (T+(65535 - foldN T))=65535∧0≤65535 - foldN T∧65535 - foldN T≤65535:=by
  unfold foldN
  rw [if_neg (by omega:¬ T=0)]
  split <;> omega
def pk4 (data:ByteArray):Pk:=⟨4,true,0,0,0,0,0,0,0,0,0,data⟩
def hB (z:Int):List UInt8:=[0,0,0,0,19,0]++Oct.be (Oct.u64 z) 2++[9,0,0,0,0,0,0,0]
def aB (n t z:Int) (s:List UInt8):List UInt8:=hB z++([0,0,0,0,0,0,0,0]++oB n t s)
theorem sizeL_3 {n t:Int} {s:ByteArray} (h:In3 n t s):sizeL (gM (L3 n t s)) 3=49:=by
  obtain ⟨a,b,c⟩:=tM_sizes h
  show 0+sizeO (gM (L3 n t s) 0)+sizeO (gM (L3 n t s) 1)+sizeO (gM (L3 n t s) 2)=49
  rw [gM_0,gM_1,gM_2]
  have hz:∀ x:ByteArray,sizeO ⟨46,x⟩=2+(x.size:Int):=fun x=>if_neg (by decide:¬ (46:Int)≤31)
  rw [hz,hz,hz];omega
theorem beg_4 {n t:Int} {s:ByteArray} (h:In3 n t s) (data:ByteArray) (z:Int):begH (pk4 data) 3 (gM (L3 n t s)) z=⟨0,0,19,0,0,z,4,true,0⟩:=by
  unfold begH wordsP
  rw [sizeL_3 h]
  rfl
theorem chk_4 {z:Int} (h0:0≤z) (h1:z≤65535):Head.check ⟨0,0,19,0,0,z,4,true,0⟩=0:=by
  have hz:Head.wi z 65535=true:=(Head.wi_iff _ _).2 ⟨h0,h1⟩
  unfold Head.check
  rw [if_neg (show ¬ Head.known 4=false by decide),if_neg (show ¬ (true=false∧Head.brief 4=false) by decide),if_neg (show ¬ (Head.wi 0 65535=false ∨ Head.wi 0 65535=false ∨ Head.wi z 65535=false ∨ Head.wi 0 15=false ∨ Head.wi 0 15=false) by rw [hz];decide),if_neg (show ¬ (Head.wi 0 (Head.most true - 1)=false ∨ Head.wi 19 255=false) by decide),if_neg (show ¬ 4 * (19:Int) < Head.size 4 true by decide)]
theorem put_4B {z:Int} (h0:0≤z) (h1:z≤65535):putB ⟨0,0,19,0,0,z,4,true,0⟩=ba (hB z):=by
  unfold putB
  rw [if_pos (chk_4 h0 h1)]
  kernel_rfl
theorem putS_3 {n t:Int} {s:ByteArray} (h:In3 n t s):putS 3 (gM (L3 n t s))=ba (oB n t s.data.toList):=by
  unfold putS
  rw [if_pos (L3_chk h)]
  have e:optL (gM (L3 n t s)) 3=46 :: 9 :: 4 :: Oct.be (Oct.u64 n) 6++(46 :: 5 :: 6 :: Oct.be (Oct.u64 t) 2++(46 :: 35 :: 5 :: s.data.toList)):=by
    obtain ⟨a,b,c⟩:=tM_sizes h
    show (([]++bytesO (gM (L3 n t s) 0))++bytesO (gM (L3 n t s) 1))++bytesO (gM (L3 n t s) 2)=_
    rw [gM_0,gM_1,gM_2]
    have hb:∀ x:ByteArray,bytesO ⟨46,x⟩=46 :: UInt8.ofNat (x.size+2) :: x.data.toList:=fun x=>by
      unfold bytesO
      rw [if_neg (show ¬ (46:Int)≤31 by decide)];rfl
    rw [hb,hb,hb,a,b,c,tM_4,tM_6,tM_5,ba_data,ba_data,ba_data]
    simp
  unfold optP
  rw [e]
  have hl:(46 :: 9 :: 4 :: Oct.be (Oct.u64 n) 6++(46 :: 5 :: 6 :: Oct.be (Oct.u64 t) 2++(46 :: 35 :: 5 :: s.data.toList))).length=49:=by
    have:=h.s0
    simp [Oct.be_length];omega
  rw [hl]
  rfl
theorem ahead_4 {n t:Int} {s:ByteArray} (h:In3 n t s) (data:ByteArray) {z:Int} (h0:0≤z) (h1:z≤65535):aheadP (pk4 data) 3 (gM (L3 n t s)) z=ba (aB n t z s.data.toList):=by
  unfold aheadP
  rw [beg_4 h,put_4B h0 h1,putS_3 h]
  have hf:fieldsB (pk4 data)=ba [0,0,0,0,0,0,0,0]:=by kernel_rfl
  rw [hf,ba_append,ba_append]
  unfold aB
  rw [List.append_assoc]
theorem oB_len (n t:Int) (s:List UInt8) (hs:s.length=32):(oB n t s).length=52:=by
  unfold oB
  simp [Oct.be_length,hs]
theorem aB_len (n t z:Int) (s:List UInt8) (hs:s.length=32):(aB n t z s).length=76:=by
  unfold aB hB
  simp [Oct.be_length,oB_len n t s hs]
theorem val_2 {z:Int} (h0:0≤z) (h1:z≤65535):∃ a b:UInt8,Oct.be (Oct.u64 z) 2=[a,b]∧(256 * a.toNat+b.toNat:Nat)=z.toNat:=by
  refine ⟨UInt8.ofNat (Oct.u64 z / 256 ^ 1),UInt8.ofNat (Oct.u64 z / 256 ^ 0),rfl,?_⟩
  have:=valU_beF z 2 (by omega) h0 (by omega)
  unfold valU at this
  rw [ba_data] at this
  have e:Oct.val (Oct.be (Oct.u64 z) 2)=256 * (UInt8.ofNat (Oct.u64 z / 256 ^ 1)).toNat+(UInt8.ofNat (Oct.u64 z / 256 ^ 0)).toNat:=by
    show 256 * (256 * 0+(UInt8.ofNat (Oct.u64 z / 256 ^ 1)).toNat)+(UInt8.ofNat (Oct.u64 z / 256 ^ 0)).toNat=_
    omega
  rw [e] at this
  generalize UInt8.ofNat (Oct.u64 z / 256 ^ 1)=p at *
  generalize UInt8.ofNat (Oct.u64 z / 256 ^ 0)=q at *
  have b1:=p.toNat_lt
  have b2:=q.toNat_lt
  have e2:(256 * p.toNat+q.toNat) % 18446744073709551616=256 * p.toNat+q.toNat:=Nat.mod_eq_of_lt (by omega)
  rw [e2] at this
  omega
theorem tot_aB (n t:Int) {z:Int} (s r:List UInt8) (h0:0≤z) (h1:z≤65535):tot16 (aB n t z s++r)=z.toNat+tot16 (aB n t 0 s++r)∧0 < tot16 (aB n t 0 s++r):=by
  obtain ⟨a,b,e,hv⟩:=val_2 h0 h1
  have e0:Oct.be (Oct.u64 0) 2=[0,0]:=by decide
  unfold aB hB
  rw [e,e0]
  show 256 * 0+0+(256 * 0+0+(256 * 19+0+(256 * a.toNat+b.toNat+tot16 _)))=z.toNat+(256 * 0+0+(256 * 0+0+(256 * 19+0+(256 * 0+0+tot16 _))))∧0 < 256 * 0+0+(256 * 0+0+(256 * 19+0+(256 * 0+0+tot16 _)))
  constructor
  · simp only [List.cons_append,List.nil_append,List.append_assoc];omega
  · omega
theorem bytes_4 {n t:Int} {s:ByteArray} (h:In3 n t s) (data:ByteArray) (x y:Int) (hd:data.size≤200) :
    ∃ z:Int,0≤z∧z≤65535∧chkP (pk4 data) 3 (gM (L3 n t s))=0∧putP (pk4 data) 3 (gM (L3 n t s)) x y=ba (aB n t z s.data.toList++data.data.toList)∧sumP (ba (aB n t z s.data.toList)) data 0 x y=0:=by
  have hs:s.data.toList.length=32:=by have:=h.s0;simpa using this
  have hc:chkP (pk4 data) 3 (gM (L3 n t s))=0:=by
    unfold chkP
    rw [beg_4 h,if_pos (chk_4 (by decide) (by decide)),if_pos (by kernel_rfl),if_pos (L3_chk h),if_neg (show ¬ (pk4 data).data.size > 200 from by show ¬ data.size > 200;omega),if_neg (Bool.eq_false_iff.1 (show spareP (pk4 data)=false by kernel_rfl)),if_pos (by unfold covOk pk4;simp)]
  have hS:∀ z:Int,0≤z→z≤65535→sumP (ba (aB n t z s.data.toList)) data 0 x y=65535 - foldN ((tot16 (pseuB x y (76+(data.size:Int))).data.toList+tot16 (aB n t z s.data.toList++data.data.toList):Nat):Int):=fun z h0 h1=>by
    unfold sumP sumXY covB
    rw [if_pos (by unfold covOk;simp),if_pos rfl,ba_z,aB_len _ _ _ _ hs]
    have:(ba (aB n t z s.data.toList)++data).data.toList=aB n t z s.data.toList++data.data.toList:=by
      rw [ByteArray.data_append,Array.toList_append,ba_data]
    rw [this];rfl
  have ha:=ahead_4 h data (z:=0) (by decide) (by decide)
  have hsum:sumOf (pk4 data) 3 (gM (L3 n t s)) x y=65535 - foldN ((tot16 (pseuB x y (76+(data.size:Int))).data.toList+tot16 (aB n t 0 s.data.toList++data.data.toList):Nat):Int):=by
    unfold sumOf
    rw [ha]
    exact hS 0 (by decide) (by decide)
  have hp:=(tot_aB n t (z:=0) s.data.toList data.data.toList (by decide) (by decide)).2
  obtain ⟨f1,f2,f3⟩:=fold_back ((tot16 (pseuB x y (76+(data.size:Int))).data.toList+tot16 (aB n t 0 s.data.toList++data.data.toList):Nat):Int) (by omega)
  rw [← hsum] at f1 f2 f3
  refine ⟨sumOf (pk4 data) 3 (gM (L3 n t s)) x y,f2,f3,hc,?_,?_⟩
  · unfold putP
    rw [if_pos hc,ahead_4 h data f2 f3]
    apply ByteArray.ext
    rw [ByteArray.data_append]
    apply Array.ext'
    rw [Array.toList_append,ba_data,ba_data]
    rfl
  · rw [hS _ f2 f3,(tot_aB n t s.data.toList data.data.toList f2 f3).1]
    rw [show ((tot16 (pseuB x y (76+(data.size:Int))).data.toList+((sumOf (pk4 data) 3 (gM (L3 n t s)) x y).toNat+tot16 (aB n t 0 s.data.toList++data.data.toList)):Nat):Int)=((tot16 (pseuB x y (76+(data.size:Int))).data.toList+tot16 (aB n t 0 s.data.toList++data.data.toList):Nat):Int)+sumOf (pk4 data) 3 (gM (L3 n t s)) x y by omega,f1]
    rfl
end Go.Proofs.YthacfgaacleaeaaGreatDoor
namespace Go.Proofs.YthacfgaacleaeaaGreatDoor
open Go.IntKind (i64 u32)
open Go.RowKit Sym Go.ChangeShapes Go.WideShapes Go.ChangeMaps
def holdsG (kn:Bool) (tag:ByteArray→ByteArray) (side:Int) (s:ByteArray) (x y:Int):Bool :=
  decide (errG s x y=0) && (decide (chkG kn tag side (opN (gotL s)) (gotL s).length (pkG s).data=0) || (saysG kn tag side (opN (gotL s)) (gotL s).length || hearsG kn tag side (opN (gotL s)) (gotL s).length))
set_option maxRecDepth 100000 in
set_option maxHeartbeats 4000000 in
theorem holds_any {w:World} (a b:ByteArray) (side us x y:Int) (s:ByteArray) (hE:ErrT w) (hs:a.size≤1000∧b.size≤1000∧s.size≤1000) :
    Calls Tryz.prog 17 #[.agg #[.string a,.string b],.int .i64 side,.agg #[.int .i64 us,.int .i64 x,.int .i64 y,.string s]] w fun e w'=>e = .returned (.bool (holdsG (knP a b) (tagP a b) side s x y))∧Below w.heap.size w w':=by
  have hget:=fun W=>get_world fPGet_ok (x:=x) (y:=y) (show s.size≤4000 by omega) W
  obtain ⟨R,hR⟩:∃ R,holdsG (knP a b) (tagP a b) side s x y=R:=⟨_,rfl⟩
  rw [hR]
  unfold holdsG at hR
  by_cases he:errG s x y=0
  · rw [he] at hR
    have hget:∀ W,Calls Tryz.prog 40 #[.string s,.agg #[.int .i64 x,.int .i64 y]] W fun e w'=>(∃ p n c,e = .returned (.tuple #[(pkG s).v (.slice p n c),.int .i64 0])∧∀ B,BlkSat B w' (.slice p n c) (.row (gotL s).length 2 fun i j=>(opN (gotL s) i).c j))∧Below W.heap.size W w':=fun W=>(hget W).mono fun e w' ⟨hP,hb⟩=>by
      rcases hP with ⟨-,u,h1,h2⟩ | ⟨h1,-⟩
      · obtain ⟨p,cap,hu,-⟩:=h2 []
        subst hu
        exact ⟨⟨p,_,cap,h1,h2⟩,hb⟩
      · exact absurd he h1
    have hf:=few_got s hs.2.2
    have hd:(pkG s).data.size≤1000000:=by rw [pkG_data];have:=dataS_le s;omega
    have hC:=fun (W:World) (o:Value) (hEW:ErrT W) (hr:∀ B,BlkSat B W o (.row (gotL s).length 2 fun i j=>(opN (gotL s) i).c j))=>check_any a b side (pkG s) hEW hf hr ⟨hs.1,hs.2.1,hd⟩
    have hS:=fun (W:World) (o:Value) (hr:∀ B,BlkSat B W o (.row (gotL s).length 2 fun i j=>(opN (gotL s) i).c j))=>says_any a b side (pkG s) hf hr ⟨hs.1,hs.2.1⟩
    have hH:=fun (W:World) (o:Value) (hr:∀ B,BlkSat B W o (.row (gotL s).length 2 fun i j=>(opN (gotL s) i).c j))=>hears_any a b side (pkG s) hf hr ⟨hs.1,hs.2.1⟩
    generalize chkG (knP a b) (tagP a b) side (opN (gotL s)) (gotL s).length (pkG s).data=Z at *
    generalize saysG (knP a b) (tagP a b) side (opN (gotL s)) (gotL s).length=S at *
    generalize hearsG (knP a b) (tagP a b) side (opN (gotL s)) (gotL s).length=H at *
    clear hf hd
    generalize hG:gotL s=G at *
    generalize pkG s=p at *
    clear hG
    unfold Pk.v at hget hC hS hH
    obtain ⟨pk,pl,ps,pd,pc,pv,pq,pa,pe,po,pt,px⟩:=p
    dsimp only at hget hC hS hH
    have e0:decide ((0:Int)=0)=true:=rfl
    rw [e0,Bool.true_and] at hR
    by_cases hZ:Z=0
    · subst hZ
      obtain rfl:R=true:=by rw [← hR];rfl
      go_enter Tryz.func17,Tryz.ntmps17
      go_upto_region 2 with (first | (go_at_call 40;(with_reducible refine (hget _).mono ?_);rintro e w1 ⟨⟨pu,nu,cu,rfl,hrow⟩,hb⟩;have hb1:Below w.heap.size w w1:=below_of (by (repeat' (first | (with_reducible exact Below.refl _ _) | (with_reducible refine below_alloc ?_ _) | (with_reducible refine Below.drew ?_) | (with_reducible refine below_drewN ?_ _) | (with_reducible refine Below.setCell ?_ ?_ _) | (with_reducible assumption) | (with_reducible refine below_of ?_ (by assumption)) | omega | (simp only [World.size_alloc,World.size_setCell,World.size_drew,size_drewN] at *;omega) | (simp;omega)))) hb;have hz:=hb.size;(try simp only [World.size_alloc,World.size_setCell,World.size_drew,size_drewN] at hz);apply own_step (B:=w.heap.size) hb;(focus (repeat (first | (with_reducible assumption) | (with_reducible exact own_new _ _ _) | ((with_reducible apply own_new');focus (first | omega | (simp;done) | (simp;omega))) | (with_reducible apply own_drewN) | (with_reducible apply own_drew) | (with_reducible apply own_alloc) | (with_reducible apply own_setT) | ((with_reducible apply own_set_otherH);focus (first | (simp;done) | (simp;omega))))));intro hO0;have hk0:=hO0.2.1;have hl0:=hO0.1;have hf0:=hO0.2.2;(try simp only [List.setIfInBounds_toArray,List.set_cons_zero,List.set_cons_succ] at hO0 hk0)))
      have hx:=own_new w1 #[.int .i64 pk,.bool pl,.int .i64 ps,.int .i64 pd,.int .i64 pc,.int .i64 pv,.int .i64 pq,.int .i64 pa,.int .i64 pe,.int .i64 po,.int .i64 pt,.slice pu nu cu,.string px] 31
      have hO:=own_alloc hO0 (.cells #[.int .i64 pk,.bool pl,.int .i64 ps,.int .i64 pd,.int .i64 pc,.int .i64 pv,.int .i64 pq,.int .i64 pa,.int .i64 pe,.int .i64 po,.int .i64 pt,.slice pu nu cu,.string px] 31)
      have hbx:=below_alloc hb1 (.cells #[.int .i64 pk,.bool pl,.int .i64 ps,.int .i64 pd,.int .i64 pc,.int .i64 pv,.int .i64 pq,.int .i64 pa,.int .i64 pe,.int .i64 po,.int .i64 pt,.slice pu nu cu,.string px] 31)
      have hr:=row_belowF hrow ((Below.refl _ w1).alloc (Nat.le_refl _) (.cells #[.int .i64 pk,.bool pl,.int .i64 ps,.int .i64 pd,.int .i64 pc,.int .i64 pv,.int .i64 pq,.int .i64 pa,.int .i64 pe,.int .i64 po,.int .i64 pt,.slice pu nu cu,.string px] 31))
      have hEx:=hE.below hbx
      clear hget hO0 hk0 hl0 hf0 hrow hb hz hb1
      generalize (w1.alloc _)=W at *
      generalize w1.heap.size=B6 at *
      have hk0:=hO.2.1
      have hk1:=hx.2.1
      go_wp2_with (first
        | (go_at_call 11;(with_reducible refine (hC _ _ hEx hr).mono ?_);rintro e wq ⟨rfl,hb⟩;replace hEx:=hEx.below hb;replace hr:=row_belowF hr hb;replace hO:=own_below hO hb;replace hx:=own_below hx hb;replace hbx:=below_of hbx hb;have hk0:=hO.2.1;have hk1:=hx.2.1)
        | (go_at_call 13;(with_reducible refine (hS _ _ hr).mono ?_);rintro e wq ⟨rfl,hb⟩;replace hEx:=hEx.below hb;replace hr:=row_belowF hr hb;replace hO:=own_below hO hb;replace hx:=own_below hx hb;replace hbx:=below_of hbx hb;have hk0:=hO.2.1;have hk1:=hx.2.1)
        | (go_at_call 15;(with_reducible refine (hH _ _ hr).mono ?_);rintro e wq ⟨rfl,hb⟩;replace hEx:=hEx.below hb;replace hr:=row_belowF hr hb;replace hO:=own_below hO hb;replace hx:=own_below hx hb;replace hbx:=below_of hbx hb;have hk0:=hO.2.1;have hk1:=hx.2.1))
      go_ret
      exact ⟨rfl,hbx⟩
    · have hZb:((Z:Int) == 0)=false:=by rw [beq_eq_false_iff_ne];exact hZ
      have hZd:decide (Z=0)=false:=decide_eq_false hZ
      rw [hZd,Bool.false_or] at hR
      cases S with
      | true =>
        obtain rfl:R=true:=by rw [← hR];rfl
        go_enter Tryz.func17,Tryz.ntmps17
        go_upto_region 2 with (first | (go_at_call 40;(with_reducible refine (hget _).mono ?_);rintro e w1 ⟨⟨pu,nu,cu,rfl,hrow⟩,hb⟩;have hb1:Below w.heap.size w w1:=below_of (by (repeat' (first | (with_reducible exact Below.refl _ _) | (with_reducible refine below_alloc ?_ _) | (with_reducible refine Below.drew ?_) | (with_reducible refine below_drewN ?_ _) | (with_reducible refine Below.setCell ?_ ?_ _) | (with_reducible assumption) | (with_reducible refine below_of ?_ (by assumption)) | omega | (simp only [World.size_alloc,World.size_setCell,World.size_drew,size_drewN] at *;omega) | (simp;omega)))) hb;have hz:=hb.size;(try simp only [World.size_alloc,World.size_setCell,World.size_drew,size_drewN] at hz);apply own_step (B:=w.heap.size) hb;(focus (repeat (first | (with_reducible assumption) | (with_reducible exact own_new _ _ _) | ((with_reducible apply own_new');focus (first | omega | (simp;done) | (simp;omega))) | (with_reducible apply own_drewN) | (with_reducible apply own_drew) | (with_reducible apply own_alloc) | (with_reducible apply own_setT) | ((with_reducible apply own_set_otherH);focus (first | (simp;done) | (simp;omega))))));intro hO0;have hk0:=hO0.2.1;have hl0:=hO0.1;have hf0:=hO0.2.2;(try simp only [List.setIfInBounds_toArray,List.set_cons_zero,List.set_cons_succ] at hO0 hk0)))
        have hx:=own_new w1 #[.int .i64 pk,.bool pl,.int .i64 ps,.int .i64 pd,.int .i64 pc,.int .i64 pv,.int .i64 pq,.int .i64 pa,.int .i64 pe,.int .i64 po,.int .i64 pt,.slice pu nu cu,.string px] 31
        have hO:=own_alloc hO0 (.cells #[.int .i64 pk,.bool pl,.int .i64 ps,.int .i64 pd,.int .i64 pc,.int .i64 pv,.int .i64 pq,.int .i64 pa,.int .i64 pe,.int .i64 po,.int .i64 pt,.slice pu nu cu,.string px] 31)
        have hbx:=below_alloc hb1 (.cells #[.int .i64 pk,.bool pl,.int .i64 ps,.int .i64 pd,.int .i64 pc,.int .i64 pv,.int .i64 pq,.int .i64 pa,.int .i64 pe,.int .i64 po,.int .i64 pt,.slice pu nu cu,.string px] 31)
        have hr:=row_belowF hrow ((Below.refl _ w1).alloc (Nat.le_refl _) (.cells #[.int .i64 pk,.bool pl,.int .i64 ps,.int .i64 pd,.int .i64 pc,.int .i64 pv,.int .i64 pq,.int .i64 pa,.int .i64 pe,.int .i64 po,.int .i64 pt,.slice pu nu cu,.string px] 31))
        have hEx:=hE.below hbx
        clear hget hO0 hk0 hl0 hf0 hrow hb hz hb1
        generalize (w1.alloc _)=W at *
        generalize w1.heap.size=B6 at *
        have hk0:=hO.2.1
        have hk1:=hx.2.1
        go_wp2_with (first
          | (go_at_call 11;(with_reducible refine (hC _ _ hEx hr).mono ?_);rintro e wq ⟨rfl,hb⟩;replace hEx:=hEx.below hb;replace hr:=row_belowF hr hb;replace hO:=own_below hO hb;replace hx:=own_below hx hb;replace hbx:=below_of hbx hb;have hk0:=hO.2.1;have hk1:=hx.2.1)
          | (go_at_call 13;(with_reducible refine (hS _ _ hr).mono ?_);rintro e wq ⟨rfl,hb⟩;replace hEx:=hEx.below hb;replace hr:=row_belowF hr hb;replace hO:=own_below hO hb;replace hx:=own_below hx hb;replace hbx:=below_of hbx hb;have hk0:=hO.2.1;have hk1:=hx.2.1)
          | (go_at_call 15;(with_reducible refine (hH _ _ hr).mono ?_);rintro e wq ⟨rfl,hb⟩;replace hEx:=hEx.below hb;replace hr:=row_belowF hr hb;replace hO:=own_below hO hb;replace hx:=own_below hx hb;replace hbx:=below_of hbx hb;have hk0:=hO.2.1;have hk1:=hx.2.1))
        go_ret
        exact ⟨rfl,hbx⟩
      | false =>
        obtain rfl:H=R:=by rw [← hR];rfl
        cases H with
        | true =>
          go_enter Tryz.func17,Tryz.ntmps17
          go_upto_region 2 with (first | (go_at_call 40;(with_reducible refine (hget _).mono ?_);rintro e w1 ⟨⟨pu,nu,cu,rfl,hrow⟩,hb⟩;have hb1:Below w.heap.size w w1:=below_of (by (repeat' (first | (with_reducible exact Below.refl _ _) | (with_reducible refine below_alloc ?_ _) | (with_reducible refine Below.drew ?_) | (with_reducible refine below_drewN ?_ _) | (with_reducible refine Below.setCell ?_ ?_ _) | (with_reducible assumption) | (with_reducible refine below_of ?_ (by assumption)) | omega | (simp only [World.size_alloc,World.size_setCell,World.size_drew,size_drewN] at *;omega) | (simp;omega)))) hb;have hz:=hb.size;(try simp only [World.size_alloc,World.size_setCell,World.size_drew,size_drewN] at hz);apply own_step (B:=w.heap.size) hb;(focus (repeat (first | (with_reducible assumption) | (with_reducible exact own_new _ _ _) | ((with_reducible apply own_new');focus (first | omega | (simp;done) | (simp;omega))) | (with_reducible apply own_drewN) | (with_reducible apply own_drew) | (with_reducible apply own_alloc) | (with_reducible apply own_setT) | ((with_reducible apply own_set_otherH);focus (first | (simp;done) | (simp;omega))))));intro hO0;have hk0:=hO0.2.1;have hl0:=hO0.1;have hf0:=hO0.2.2;(try simp only [List.setIfInBounds_toArray,List.set_cons_zero,List.set_cons_succ] at hO0 hk0)))
          have hx:=own_new w1 #[.int .i64 pk,.bool pl,.int .i64 ps,.int .i64 pd,.int .i64 pc,.int .i64 pv,.int .i64 pq,.int .i64 pa,.int .i64 pe,.int .i64 po,.int .i64 pt,.slice pu nu cu,.string px] 31
          have hO:=own_alloc hO0 (.cells #[.int .i64 pk,.bool pl,.int .i64 ps,.int .i64 pd,.int .i64 pc,.int .i64 pv,.int .i64 pq,.int .i64 pa,.int .i64 pe,.int .i64 po,.int .i64 pt,.slice pu nu cu,.string px] 31)
          have hbx:=below_alloc hb1 (.cells #[.int .i64 pk,.bool pl,.int .i64 ps,.int .i64 pd,.int .i64 pc,.int .i64 pv,.int .i64 pq,.int .i64 pa,.int .i64 pe,.int .i64 po,.int .i64 pt,.slice pu nu cu,.string px] 31)
          have hr:=row_belowF hrow ((Below.refl _ w1).alloc (Nat.le_refl _) (.cells #[.int .i64 pk,.bool pl,.int .i64 ps,.int .i64 pd,.int .i64 pc,.int .i64 pv,.int .i64 pq,.int .i64 pa,.int .i64 pe,.int .i64 po,.int .i64 pt,.slice pu nu cu,.string px] 31))
          have hEx:=hE.below hbx
          clear hget hO0 hk0 hl0 hf0 hrow hb hz hb1
          generalize (w1.alloc _)=W at *
          generalize w1.heap.size=B6 at *
          have hk0:=hO.2.1
          have hk1:=hx.2.1
          go_wp2_with (first
            | (go_at_call 11;(with_reducible refine (hC _ _ hEx hr).mono ?_);rintro e wq ⟨rfl,hb⟩;replace hEx:=hEx.below hb;replace hr:=row_belowF hr hb;replace hO:=own_below hO hb;replace hx:=own_below hx hb;replace hbx:=below_of hbx hb;have hk0:=hO.2.1;have hk1:=hx.2.1)
            | (go_at_call 13;(with_reducible refine (hS _ _ hr).mono ?_);rintro e wq ⟨rfl,hb⟩;replace hEx:=hEx.below hb;replace hr:=row_belowF hr hb;replace hO:=own_below hO hb;replace hx:=own_below hx hb;replace hbx:=below_of hbx hb;have hk0:=hO.2.1;have hk1:=hx.2.1)
            | (go_at_call 15;(with_reducible refine (hH _ _ hr).mono ?_);rintro e wq ⟨rfl,hb⟩;replace hEx:=hEx.below hb;replace hr:=row_belowF hr hb;replace hO:=own_below hO hb;replace hx:=own_below hx hb;replace hbx:=below_of hbx hb;have hk0:=hO.2.1;have hk1:=hx.2.1))
          go_ret
          exact ⟨rfl,hbx⟩
        | false =>
          go_enter Tryz.func17,Tryz.ntmps17
          go_upto_region 2 with (first | (go_at_call 40;(with_reducible refine (hget _).mono ?_);rintro e w1 ⟨⟨pu,nu,cu,rfl,hrow⟩,hb⟩;have hb1:Below w.heap.size w w1:=below_of (by (repeat' (first | (with_reducible exact Below.refl _ _) | (with_reducible refine below_alloc ?_ _) | (with_reducible refine Below.drew ?_) | (with_reducible refine below_drewN ?_ _) | (with_reducible refine Below.setCell ?_ ?_ _) | (with_reducible assumption) | (with_reducible refine below_of ?_ (by assumption)) | omega | (simp only [World.size_alloc,World.size_setCell,World.size_drew,size_drewN] at *;omega) | (simp;omega)))) hb;have hz:=hb.size;(try simp only [World.size_alloc,World.size_setCell,World.size_drew,size_drewN] at hz);apply own_step (B:=w.heap.size) hb;(focus (repeat (first | (with_reducible assumption) | (with_reducible exact own_new _ _ _) | ((with_reducible apply own_new');focus (first | omega | (simp;done) | (simp;omega))) | (with_reducible apply own_drewN) | (with_reducible apply own_drew) | (with_reducible apply own_alloc) | (with_reducible apply own_setT) | ((with_reducible apply own_set_otherH);focus (first | (simp;done) | (simp;omega))))));intro hO0;have hk0:=hO0.2.1;have hl0:=hO0.1;have hf0:=hO0.2.2;(try simp only [List.setIfInBounds_toArray,List.set_cons_zero,List.set_cons_succ] at hO0 hk0)))
          have hx:=own_new w1 #[.int .i64 pk,.bool pl,.int .i64 ps,.int .i64 pd,.int .i64 pc,.int .i64 pv,.int .i64 pq,.int .i64 pa,.int .i64 pe,.int .i64 po,.int .i64 pt,.slice pu nu cu,.string px] 31
          have hO:=own_alloc hO0 (.cells #[.int .i64 pk,.bool pl,.int .i64 ps,.int .i64 pd,.int .i64 pc,.int .i64 pv,.int .i64 pq,.int .i64 pa,.int .i64 pe,.int .i64 po,.int .i64 pt,.slice pu nu cu,.string px] 31)
          have hbx:=below_alloc hb1 (.cells #[.int .i64 pk,.bool pl,.int .i64 ps,.int .i64 pd,.int .i64 pc,.int .i64 pv,.int .i64 pq,.int .i64 pa,.int .i64 pe,.int .i64 po,.int .i64 pt,.slice pu nu cu,.string px] 31)
          have hr:=row_belowF hrow ((Below.refl _ w1).alloc (Nat.le_refl _) (.cells #[.int .i64 pk,.bool pl,.int .i64 ps,.int .i64 pd,.int .i64 pc,.int .i64 pv,.int .i64 pq,.int .i64 pa,.int .i64 pe,.int .i64 po,.int .i64 pt,.slice pu nu cu,.string px] 31))
          have hEx:=hE.below hbx
          clear hget hO0 hk0 hl0 hf0 hrow hb hz hb1
          generalize (w1.alloc _)=W at *
          generalize w1.heap.size=B6 at *
          have hk0:=hO.2.1
          have hk1:=hx.2.1
          go_wp2_with (first
            | (go_at_call 11;(with_reducible refine (hC _ _ hEx hr).mono ?_);rintro e wq ⟨rfl,hb⟩;replace hEx:=hEx.below hb;replace hr:=row_belowF hr hb;replace hO:=own_below hO hb;replace hx:=own_below hx hb;replace hbx:=below_of hbx hb;have hk0:=hO.2.1;have hk1:=hx.2.1)
            | (go_at_call 13;(with_reducible refine (hS _ _ hr).mono ?_);rintro e wq ⟨rfl,hb⟩;replace hEx:=hEx.below hb;replace hr:=row_belowF hr hb;replace hO:=own_below hO hb;replace hx:=own_below hx hb;replace hbx:=below_of hbx hb;have hk0:=hO.2.1;have hk1:=hx.2.1)
            | (go_at_call 15;(with_reducible refine (hH _ _ hr).mono ?_);rintro e wq ⟨rfl,hb⟩;replace hEx:=hEx.below hb;replace hr:=row_belowF hr hb;replace hO:=own_below hO hb;replace hx:=own_below hx hb;replace hbx:=below_of hbx hb;have hk0:=hO.2.1;have hk1:=hx.2.1))
          go_ret
          exact ⟨rfl,hbx⟩
  · obtain rfl:R=false:=by rw [← hR,decide_eq_false he];rfl
    have hget:∀ W,Calls Tryz.prog 40 #[.string s,.agg #[.int .i64 x,.int .i64 y]] W fun e w'=>e = .returned (.tuple #[.agg #[.int .i64 0,.bool false,.int .i64 0,.int .i64 0,.int .i64 0,.int .i64 0,.int .i64 0,.int .i64 0,.int .i64 0,.int .i64 0,.int .i64 0,.slice none 0 0,.string ⟨⟨[]⟩⟩],.int .i64 (errG s x y)])∧Below W.heap.size W w':=fun W=>(hget W).mono fun e w' ⟨hP,hb⟩=>by
      rcases hP with ⟨h0,-⟩ | ⟨-,h1⟩
      · exact absurd h0 he
      · exact ⟨h1,hb⟩
    generalize errG s x y=E at *
    have hEb:((E:Int) == 0)=false:=by rw [beq_eq_false_iff_ne];exact he
    go_enter Tryz.func17,Tryz.ntmps17
    go_wp2_with (first | (go_at_call 40;(with_reducible refine (hget _).mono ?_);rintro e w1 ⟨rfl,hb⟩;have hb1:Below w.heap.size w w1:=below_of (by (repeat' (first | (with_reducible exact Below.refl _ _) | (with_reducible refine below_alloc ?_ _) | (with_reducible refine Below.drew ?_) | (with_reducible refine below_drewN ?_ _) | (with_reducible refine Below.setCell ?_ ?_ _) | (with_reducible assumption) | (with_reducible refine below_of ?_ (by assumption)) | omega | (simp only [World.size_alloc,World.size_setCell,World.size_drew,size_drewN] at *;omega) | (simp;omega)))) hb))
    go_ret
    exact ⟨rfl,by (repeat' (first | (with_reducible exact Below.refl _ _) | (with_reducible refine below_alloc ?_ _) | (with_reducible refine Below.drew ?_) | (with_reducible refine below_drewN ?_ _) | (with_reducible refine Below.setCell ?_ ?_ _) | (with_reducible assumption) | (with_reducible refine below_of ?_ (by assumption)) | omega | (simp only [World.size_alloc,World.size_setCell,World.size_drew,size_drewN] at *;omega) | (simp;omega)))⟩
end Go.Proofs.YthacfgaacleaeaaGreatDoor
namespace Go.Proofs.YthacfgaacleaeaaGreatDoor
open Go.IntKind (i64 u32)
open Go.RowKit Sym Sha Inet
theorem nu_ba (l:List UInt8) (a b:Nat):nu (ba l) a b=Oct.val ((l.drop a).take (b - a)):=by
  unfold nu
  rw [ba_extract,ba_data]
theorem val_u16 {z:Int} (h0:0≤z) (h1:z≤65535):((Oct.val (Oct.be (Oct.u64 z) 2):Nat):Int)=z:=by
  obtain ⟨a,b,e,hv⟩:=val_2 h0 h1
  rw [e]
  have:Oct.val [a,b]=256 * a.toNat+b.toNat:=by
    show 256 * (256 * 0+a.toNat)+b.toNat=_
    omega
  rw [this];omega
theorem get_4B {z:Int} (r:List UInt8) (h0:0≤z) (h1:z≤65535):get (ba (hB z++r))=(⟨0,0,19,0,0,z,4,true,0⟩,(ba (hB z++r)).extract 16 (ba (hB z++r)).size,0):=by
  have hs:(ba (hB z++r)).size=16+r.length:=by rw [ba_z,List.length_append];rfl
  obtain ⟨a,b,e,-⟩:=val_2 h0 h1
  have hv:=val_u16 h0 h1
  rw [e] at hv
  have hL:hB z++r=0 :: 0 :: 0 :: 0 :: 19 :: 0 :: a :: b :: 9 :: 0 :: 0 :: 0 :: 0 :: 0 :: 0 :: 0 :: r:=by unfold hB;rw [e];rfl
  have n:∀ i j,nu (ba (hB z++r)) i j=Oct.val (((0 :: 0 :: 0 :: 0 :: 19 :: 0 :: a :: b :: 9 :: 0 :: 0 :: 0 :: 0 :: 0 :: 0 :: 0 :: r).drop i).take (j - i)):=fun i j=>by rw [nu_ba,hL]
  have n89:nu (ba (hB z++r)) 8 9=9:=n 8 9
  have n910:nu (ba (hB z++r)) 9 10=0:=n 9 10
  have n02:nu (ba (hB z++r)) 0 2=0:=n 0 2
  have n24:nu (ba (hB z++r)) 2 4=0:=n 2 4
  have n45:nu (ba (hB z++r)) 4 5=19:=n 4 5
  have n56:nu (ba (hB z++r)) 5 6=0:=n 5 6
  have n68:nu (ba (hB z++r)) 6 8=Oct.val [a,b]:=n 6 8
  have n1016:nu (ba (hB z++r)) 10 16=0:=n 10 16
  have hh:hd (ba (hB z++r)) true=⟨0,0,19,0,0,z,4,true,0⟩:=by
    unfold hd
    rw [n02,n24,n45,n56,n68,n89,n1016,hv]
    rfl
  unfold get
  rw [if_neg (by omega),if_pos (by rw [n89]),if_neg (by omega),if_pos (by rw [n89,n910];decide),hh,if_pos (chk_4 h0 h1)]
theorem back_4 {n t:Int} {s:ByteArray} (h:In3 n t s) (data:ByteArray) (x y:Int) (hd:data.size≤200) :
    ∃ S:ByteArray,putP (pk4 data) 3 (gM (L3 n t s)) x y=S∧chkP (pk4 data) 3 (gM (L3 n t s))=0∧S.size≤1000∧errG S x y=0∧gotL S=(L3 n t s).map oM∧(pkG S).data=data:=by
  obtain ⟨z,h0,h1,hc,hp,hsum⟩:=bytes_4 h data x y hd
  have hs:s.data.toList.length=32:=by have:=h.s0;simpa using this
  have hz:=aB_len n t z s.data.toList hs
  have hdl:data.data.toList.length=data.size:=by simp
  have hS:(ba (aB n t z s.data.toList++data.data.toList)).size=76+data.size:=by rw [ba_z,List.length_append,hz,hdl]
  have hg:get (ba (aB n t z s.data.toList++data.data.toList))=(⟨0,0,19,0,0,z,4,true,0⟩,(ba (aB n t z s.data.toList++data.data.toList)).extract 16 (ba (aB n t z s.data.toList++data.data.toList)).size,0):=by
    have:=get_4B (z:=z) (([0,0,0,0,0,0,0,0]++oB n t s.data.toList)++data.data.toList) h0 h1
    rw [← List.append_assoc] at this
    exact this
  refine ⟨_,hp,hc,by omega,?_⟩
  generalize hSv:ba (aB n t z s.data.toList++data.data.toList)=S at *
  have hpe:partsE S=0:=by
    unfold partsE
    rw [hg,if_pos rfl,if_neg (show ¬ (S.size:Int) < 4 * 19 by omega)]
  have hrw:restW S=76:=by unfold restW;rw [hg];rfl
  have hah:aheadS S=ba (aB n t z s.data.toList):=by
    unfold aheadS
    rw [if_pos hpe,hrw,← hSv,ba_extract,List.drop_zero,List.take_left' (by rw [hz])]
  have hda:dataS S=data:=by
    unfold dataS
    rw [if_pos hpe,hrw,hS,← hSv,ba_extract,List.drop_left' hz,List.take_of_length_le (by omega),ba_of]
  have hHG:hG S=⟨0,0,19,0,0,z,4,true,0⟩:=by unfold hG;rw [hg]
  have hri:rightB S x y=true:=by
    have e1:S.extract 0 (restW S)=ba (aB n t z s.data.toList):=by
      have:=hah
      unfold aheadS at this
      rw [if_pos hpe] at this;exact this
    have e2:S.extract (restW S) S.size=data:=by
      have:=hda
      unfold dataS at this
      rw [if_pos hpe] at this;exact this
    unfold rightB
    rw [e1,e2,hg,if_pos rfl,if_neg (show ¬ (S.size:Int) < 4 * 19 by omega)]
    show (covOk data 0 && decide (sumP (ba (aB n t z s.data.toList)) data 0 x y=0))=true
    rw [hsum]
    unfold covOk
    simp
  have hbo:bodyS S=ba ([0,0,0,0,0,0,0,0]++oB n t s.data.toList):=by
    unfold bodyS
    rw [hHG,hah,ba_z,hz]
    show (ba (aB n t z s.data.toList)).extract 16 76=_
    rw [ba_extract]
    unfold aB
    rw [List.drop_left' (show (hB z).length=16 from rfl),List.take_of_length_le (by simp [oB_len _ _ _ hs])]
  have hpk:pk0 S=pk4 data:=by
    unfold pk0
    rw [hHG,hda];rfl
  have hop:optS S=ba (oB n t s.data.toList):=by
    unfold optS
    rw [hpk,hbo,ba_z]
    show (ba ([0,0,0,0,0,0,0,0]++oB n t s.data.toList)).extract 8 _=_
    rw [ba_extract,List.drop_left' (show ([0,0,0,0,0,0,0,0]:List UInt8).length=8 from rfl),List.take_of_length_le (by simp)]
  obtain ⟨o1,o2⟩:=opts_back n t s.data.toList hs
  have hgot:optsOf (optS S)=(L3 n t s).map oM:=by
    rw [hop,o1]
    show _=[oM (m4 n),oM (m6 t),oM (m5 s)]
    unfold oM
    rw [tM_4,tM_6,tM_5]
  have hgd:(pkG S).data=data:=by rw [pkG_data,hda]
  have hbx:(ba ([0,0,0,0,0,0,0,0]++oB n t s.data.toList))=ba (0 :: 0 :: 0 :: 0 :: 0 :: 0 :: 0 :: 0 :: oB n t s.data.toList):=rfl
  refine ⟨?_,hgot,hgd⟩
  have hno:noughtR (pk0 S) (bodyS S)=0:=by
    rw [hpk,hbo,hbx]
    show valU ((ba (0 :: 0 :: 0 :: 0 :: 0 :: 0 :: 0 :: 0 :: oB n t s.data.toList)).extract 0 2)=0
    rw [ba_extract]
    rfl
  have hge:getE (optS S)=0:=by
    unfold getE
    rw [hop,if_pos o2,← hop,hgot]
    exact L3_chk h
  have hsp:spareP (pkG S)=false:=by
    unfold pkG
    rw [hpk,hbo,hbx]
    kernel_rfl
  unfold errG
  rw [if_neg (by omega),if_pos hpe,if_pos hri,if_pos hno,if_pos hge,hgd,if_neg (by omega),if_neg (Bool.eq_false_iff.1 hsp)]
theorem holds_back {n t:Int} {s:ByteArray} (kn:Bool) (tag:ByteArray→ByteArray) (side:Int) (h:In3 n t s) (data:ByteArray) (x y:Int) (hd:data.size≤200) (hk:chkG kn tag side (gM (L3 n t s)) 3 data=0) :
    holdsG kn tag side (putP (pk4 data) 3 (gM (L3 n t s)) x y) x y=true:=by
  obtain ⟨S,e,-,-,e1,e2,e3⟩:=back_4 h data x y hd
  rw [e]
  unfold holdsG
  rw [e1,e2,e3]
  have:chkG kn tag side (opN ((L3 n t s).map oM)) ((L3 n t s).map oM).length data=0:=hk
  rw [this]
  rfl
end Go.Proofs.YthacfgaacleaeaaGreatDoor
namespace Go.Proofs.YthacfgaacleaeaaGreatDoor
open Go.IntKind (i64 u32)
open Go.RowKit Sym Sha Go.ChangeShapes Go.WideShapes Go.ChangeMaps
end Go.Proofs.YthacfgaacleaeaaGreatDoor
namespace Go.Proofs.YthacfgaacleaeaaGreatDoor
open Go.IntKind (i64 u32)
open Go.ChangeShapes Go.WideShapes Go.ChangeAt Go.RowKit Sym Go.ChangeMaps
theorem et_named:Tryz.prog.globalNamed "errors.errorType" = some 0:=by kernel_rfl
theorem rt_named:(Tryz.prog.cutTypes.find? (·.1 == "internal/reflectlite.rtype")).map (·.2)=some 202:=by kernel_rfl
theorem one_row:((List.range 304).filter fun t=>Tryz.prog.rowNamed t [101,114,114,111,114])=[72]:=by kernel_rfl
theorem types_size:Tryz.prog.types.size=304:=by kernel_rfl
abbrev TabW (W:World):Prop:=ErrT W
theorem laid_tab {W:World} (h:laidMetH Tryz.prog Rows.forgeChecksRow.laid W):TabW W:=by
  have h':laidMet Tryz.prog [] W∧handlesMet Tryz.prog Rows.forgeChecksRow.laid W:=h
  obtain ⟨name,u,ty,e1,e2,e3,e4,e5⟩:=h'.2 _ (List.mem_singleton.2 rfl)
  have en:name=[101,114,114,111,114]:=(Option.some.inj e1).symm
  subst en
  obtain rfl:=Option.some.inj (rt_named.symm.trans e2)
  have hm:ty ∈ (List.range 304).filter fun t=>Tryz.prog.rowNamed t [101,114,114,111,114]:=List.mem_filter.2 ⟨List.mem_range.2 (by rw [← types_size];exact e3),e4⟩
  rw [one_row] at hm
  obtain rfl:=List.mem_singleton.1 hm
  have hh:typeHandle Tryz.prog 72 = .pointer (some ⟨2,72,none⟩):=by kernel_rfl
  rw [hh] at e5
  have:=World.var?_cell et_named e5 0
  show W.cell? ⟨0,0,none⟩=_
  simpa using this
theorem door_met (os:Os) (args:Array Value):laidMetH Tryz.prog Rows.forgeChecksRow.laid ((World.doorLaid Tryz.prog 24 os).forCall (fun _ _=>0) ⟨#[],args,[]⟩).memory :=
  laidMetH_of_parts (laidMet_nil _ _) (by kernel_rfl)
set_option maxRecDepth 100000 in
theorem open_str2 {H:Type} {enc:TypeId×Value→H} {W:World} {base b0:Nat} {r:Reach} {v:Value} {d:DataW H} {p:List MemPlace} {sp:Nat→Bool} (hv:Value.okWide Tryz.prog W r b0 22 v) (h:DataW.Trod enc Tryz.prog W base sp true 22 v d p) :
    ∃ a b:ByteArray,v = .agg #[.string a,.string b]∧a.size≤maxLen∧b.size≤maxLen:=by
  simp only [Value.okWide,Tryz.underlying22] at hv
  obtain ⟨cs,rfl,hsz,-⟩:=hv
  rw [show Tryz.prog.cellsOf 22=2 from by kernel_rfl] at hsz
  obtain ⟨l⟩:=cs
  obtain ⟨fuel,hf⟩:=h
  have hl:l.length=2:=by simpa using hsz
  match l,hl with
  | [x,y],_ =>
    have hf:DataW.trod enc Tryz.prog W base sp true fuel 22 [x,y]=some (d,p):=hf
    obtain ⟨xs,m,-,-,-,hlen,hg⟩:=DataW.trod_array Tryz.underlying22 hf
    have ci:Tryz.prog.cellsOf 9=1:=by kernel_rfl
    have one:∀ i,i < 2→∀ c,(([x,y]:List Value).drop i).take 1=[c]→∃ s:ByteArray,c = .string s∧s.size≤maxLen:=by
      intro i hi c hc
      obtain ⟨u,hu⟩:∃ u,xs[i]?=some u:=⟨_,List.getElem?_eq_getElem (by rw [hlen];exact hi)⟩
      rw [← hg i hi,ci,Nat.mul_one,hc] at hu
      obtain ⟨s,e,-,hz⟩:=DataW.trod_string Tryz.underlying9 hu
      simp at e
      exact ⟨s,e,hz⟩
    obtain ⟨a,rfl,ha⟩:=one 0 (by decide) x rfl
    obtain ⟨b,rfl,hb⟩:=one 1 (by decide) y rfl
    exact ⟨a,b,rfl,ha,hb⟩
end Go.Proofs.YthacfgaacleaeaaGreatDoor
namespace Go.Proofs.YthacfgaacleaeaaGreatDoor
open Go.IntKind (i64 u32)
open Go.RowKit Sym Sha Go.ChangeShapes Go.WideShapes Go.ChangeAt Go.ChangeMaps
def sA (kf:Nat→Int):ByteArray:=strOfNums [kf 0,kf 1,kf 2,kf 3,kf 4,kf 5,kf 6,kf 7]
def sB (kf:Nat→Int):ByteArray:=strOfNums [kf 8,kf 9,kf 10,kf 11,kf 12,kf 13,kf 14,kf 15]
theorem sA_size (kf:Nat→Int):(sA kf).size=8:=rfl
theorem sB_size (kf:Nat→Int):(sB kf).size=8:=rfl
theorem pair_new {wr w4:World} (hb:Below wr.heap.size wr w4) (cs:Array Value) (t:TypeId):Own (w4.alloc (.cells cs t)) w4.heap.size cs∧Below wr.heap.size wr (w4.alloc (.cells cs t)):=⟨own_new _ _ _,hb.alloc hb.size _⟩
theorem pair_set {wr w4:World} {B:Nat} (hN:Own w4 B #[.string ⟨#[]⟩,.string ⟨#[]⟩]) (hb:Below wr.heap.size wr w4) (hB:wr.heap.size≤B) (a b:ByteArray) :
    Own ((w4.setCell ⟨B,0,none⟩ (.string a)).setCell ⟨B,1,none⟩ (.string b)) B #[.string a,.string b]∧Below wr.heap.size wr ((w4.setCell ⟨B,0,none⟩ (.string a)).setCell ⟨B,1,none⟩ (.string b)) :=
  ⟨own_conv (own_set (own_set hN 0 (by simp) _) 1 (by simp) _) (by simp),(hb.setCell hB _).setCell hB _⟩
theorem conv_u8 {V:World} {b off:Nat} (xs:List Int) (h:∀ i,i < xs.length→V.cell? ⟨b,off+i,none⟩=some (.int .u8 (xs.getD i 0))):(convert 60 9 (.slice (some ⟨b,off,none⟩) xs.length xs.length)).run Tryz.prog V = .ok (.string (strOfNums xs)) V :=
  run_convert_bytes_arg V 60 5 (by kernel_rfl) (by kernel_rfl) b off xs.length xs.length xs rfl h 9 (by kernel_rfl)
structure GenF (w:World) (A B:ByteArray) (n m n0 n1 t0 t1:Int) (d0 d1:ByteArray) (x y:Int) (TG T1 T2 S:ByteArray) (Z1 Z2:Int):Prop where
  fd0:∀ W,Calls Tryz.prog 24 #[.agg #[.string A,.string B],.int .i64 n,.int .i64 n0,.int .i64 t0,.string d0] W fun e w'=>e = .returned (.string TG)∧Below W.heap.size W w'
  fd1:∀ W,Calls Tryz.prog 24 #[.agg #[.string A,.string B],.int .i64 n,.int .i64 n1,.int .i64 t1,.string d1] W fun e w'=>e = .returned (.string T1)∧Below W.heap.size W w'
  fd2:∀ W,Calls Tryz.prog 24 #[.agg #[.string A,.string B],.int .i64 m,.int .i64 n0,.int .i64 t0,.string d0] W fun e w'=>e = .returned (.string T2)∧Below W.heap.size W w'
  s0:∀ W:World,Calls Tryz.prog 25 #[.slice none 0 0,.slice (some ⟨W.heap.size,0,none⟩) 3 3] (W.alloc (.cells #[.int .i64 4,.int .i64 0,.int .i64 0,.int .i64 n0,.int .i64 0,.int .i64 0,.string ⟨#[]⟩,.int .i64 6,.int .i64 0,.int .i64 0,.int .i64 t0,.int .i64 0,.int .i64 0,.string ⟨#[]⟩,.int .i64 5,.int .i64 0,.int .i64 0,.int .i64 0,.int .i64 0,.int .i64 0,.string TG] 65)) fun e w'=>(∃ p c,e = .returned (.tuple #[.slice p 3 c,.int .i64 0])∧∀ B,BlkSat B w' (.slice p 3 c) (.row 3 2 fun i j=>(gM (L3 n0 t0 TG) i).c j))∧Below W.heap.size W w'
  s1:∀ W:World,Calls Tryz.prog 25 #[.slice none 0 0,.slice (some ⟨W.heap.size,0,none⟩) 3 3] (W.alloc (.cells #[.int .i64 4,.int .i64 0,.int .i64 0,.int .i64 n1,.int .i64 0,.int .i64 0,.string ⟨#[]⟩,.int .i64 6,.int .i64 0,.int .i64 0,.int .i64 t1,.int .i64 0,.int .i64 0,.string ⟨#[]⟩,.int .i64 5,.int .i64 0,.int .i64 0,.int .i64 0,.int .i64 0,.int .i64 0,.string TG] 65)) fun e w'=>(∃ p c,e = .returned (.tuple #[.slice p 3 c,.int .i64 0])∧∀ B,BlkSat B w' (.slice p 3 c) (.row 3 2 fun i j=>(gM (L3 n1 t1 TG) i).c j))∧Below W.heap.size W w'
  put:∀ (W:World) (v:Value),(∀ B,BlkSat B W v (.row 3 2 fun i j=>(gM (L3 n0 t0 TG) i).c j))→Calls Tryz.prog 26 #[.agg #[.int .i64 4,.bool true,.int .i64 0,.int .i64 0,.int .i64 0,.int .i64 0,.int .i64 0,.int .i64 0,.int .i64 0,.int .i64 0,.int .i64 0,v,.string d0],.agg #[.int .i64 x,.int .i64 y]] W fun e w'=>e = .returned (.tuple #[.string S,.int .i64 0])∧Below W.heap.size W w'
  cx:∀ (W:World) (v:Value),Below w.heap.size w W→(∀ B,BlkSat B W v (.row 3 2 fun i j=>(gM (L3 n0 t0 TG) i).c j))→Calls Tryz.prog 11 #[.agg #[.string A,.string B],.int .i64 n,.agg #[.int .i64 4,.bool true,.int .i64 0,.int .i64 0,.int .i64 0,.int .i64 0,.int .i64 0,.int .i64 0,.int .i64 0,.int .i64 0,.int .i64 0,v,.string d0]] W fun e w'=>e = .returned (.int .i64 0)∧Below W.heap.size W w'
  ho:∀ (W:World),Below w.heap.size w W→Calls Tryz.prog 17 #[.agg #[.string A,.string B],.int .i64 n,.agg #[.int .i64 0,.int .i64 x,.int .i64 y,.string S]] W fun e w'=>e = .returned (.bool true)∧Below W.heap.size W w'
  cy:∀ (W:World) (v:Value),Below w.heap.size w W→(∀ B,BlkSat B W v (.row 3 2 fun i j=>(gM (L3 n1 t1 TG) i).c j))→Calls Tryz.prog 11 #[.agg #[.string A,.string B],.int .i64 n,.agg #[.int .i64 4,.bool false,.int .i64 0,.int .i64 0,.int .i64 0,.int .i64 0,.int .i64 0,.int .i64 0,.int .i64 0,.int .i64 0,.int .i64 0,v,.string d1]] W fun e w'=>e = .returned (.int .i64 Z1)∧Below W.heap.size W w'
  cm:∀ (W:World) (v:Value),Below w.heap.size w W→(∀ B,BlkSat B W v (.row 3 2 fun i j=>(gM (L3 n0 t0 TG) i).c j))→Calls Tryz.prog 11 #[.agg #[.string A,.string B],.int .i64 m,.agg #[.int .i64 4,.bool true,.int .i64 0,.int .i64 0,.int .i64 0,.int .i64 0,.int .i64 0,.int .i64 0,.int .i64 0,.int .i64 0,.int .i64 0,v,.string d0]] W fun e w'=>e = .returned (.int .i64 Z2)∧Below W.heap.size W w'
theorem tagP_32 {a b:ByteArray} (h:knP a b=true) (x:ByteArray):(tagP a b x).size=32:=by
  unfold knP at h
  have hn:¬ (a=nilB∧b=nilB):=fun q=>by rw [q.1,q.2] at h;simp at h
  unfold tagP
  rw [if_neg hn]
  exact macOf_size _ _
theorem say_gen {W:World} {n t:Int} {TG:ByteArray} (h:In3 n t TG):Calls Tryz.prog 25 #[.slice none 0 0,.slice (some ⟨W.heap.size,0,none⟩) 3 3] (W.alloc (.cells #[.int .i64 4,.int .i64 0,.int .i64 0,.int .i64 n,.int .i64 0,.int .i64 0,.string ⟨#[]⟩,.int .i64 6,.int .i64 0,.int .i64 0,.int .i64 t,.int .i64 0,.int .i64 0,.string ⟨#[]⟩,.int .i64 5,.int .i64 0,.int .i64 0,.int .i64 0,.int .i64 0,.int .i64 0,.string TG] 65)) fun e w'=>(∃ p c,e = .returned (.tuple #[.slice p 3 c,.int .i64 0])∧∀ B,BlkSat B w' (.slice p 3 c) (.row 3 2 fun i j=>(gM (L3 n t TG) i).c j))∧Below W.heap.size W w':=by
  refine (say_rows (L:=L3 n t TG) (show 3≤1000 by decide) (musAt_new rfl rfl (show 3≤1000 by decide)) (L3_put h) (L3_small h) (L3_chk h)).mono ?_
  rintro e w' ⟨⟨u,he,hr⟩,hb⟩
  obtain ⟨p,c,hu,-⟩:=hr []
  subst hu
  exact ⟨⟨p,c,he,hr⟩,below_of (by (repeat' (first | (with_reducible exact Below.refl _ _) | (with_reducible refine below_alloc ?_ _) | (with_reducible refine Below.drew ?_) | (with_reducible refine below_drewN ?_ _) | (with_reducible refine Below.setCell ?_ ?_ _) | (with_reducible assumption) | (with_reducible refine below_of ?_ (by assumption)) | omega | (simp only [World.size_alloc,World.size_setCell,World.size_drew,size_drewN] at *;omega) | (simp;omega)))) hb⟩
theorem few_3 {n t:Int} {s:ByteArray} (h:In3 n t s):Few 3 (gM (L3 n t s)):=few_gM (L:=L3 n t s) (show 3≤1000 by decide) (L3_small h)
set_option maxRecDepth 100000 in
theorem facts_gen {w:World} (A B:ByteArray) (hE:ErrT w) (n m n0 n1 t0 t1:Int) (d0 d1:ByteArray) (x y:Int) (hA:A.size=8) (hB:B.size=8) (hn:0≤n0∧n0 < 4294967296∧0≤n1∧n1 < 4294967296) (ht:0≤t0∧t0 < 65536∧0≤t1∧t1 < 65536) (hd:d0.size≤200∧d1.size≤200) :
    ∃ TG T1 T2 S Z1 Z2,((n0=n1→t0=t1→d0=d1→T1=TG)∧(Z1=if TG=T1 then 0 else 14)∧(Z2=if TG=T2 then 0 else 14))∧GenF w A B n m n0 n1 t0 t1 d0 d1 x y TG T1 T2 S Z1 Z2:=by
  have hkn:knP A B=true:=by
    unfold knP
    have h:¬ A=nilB:=fun e=>by rw [e] at hA;cases hA
    rw [decide_eq_false h];rfl
  obtain ⟨e1,e2,e3⟩:=kAB hA hB
  have hz0:=tagP_32 hkn (dataText n n0 t0 d0)
  have h0:In3 n0 t0 (tagP A B (dataText n n0 t0 d0)):=⟨hn.1,by omega,ht.1,ht.2.1,hz0⟩
  have h1:In3 n1 t1 (tagP A B (dataText n n0 t0 d0)):=⟨hn.2.2.1,by omega,ht.2.2.1,ht.2.2.2,hz0⟩
  have hc0:∀ side data,chkG (knP A B) (tagP A B) side (gM (L3 n0 t0 (tagP A B (dataText n n0 t0 d0)))) 3 data=if tagP A B (dataText n n0 t0 d0)=tagP A B (dataText side n0 t0 data) then 0 else 14:=fun side data=>by rw [L3_chkG h0,hkn,if_neg (by decide)]
  have hc1:∀ side data,chkG (knP A B) (tagP A B) side (gM (L3 n1 t1 (tagP A B (dataText n n0 t0 d0)))) 3 data=if tagP A B (dataText n n0 t0 d0)=tagP A B (dataText side n1 t1 data) then 0 else 14:=fun side data=>by rw [L3_chkG h1,hkn,if_neg (by decide)]
  obtain ⟨S,hS1,hS2,hS3,-,-,-⟩:=back_4 h0 d0 x y hd.1
  have hhold:=holds_back (knP A B) (tagP A B) n h0 d0 x y hd.1 (by rw [hc0,if_pos rfl])
  rw [hS1] at hhold
  refine ⟨tagP A B (dataText n n0 t0 d0),tagP A B (dataText n n1 t1 d1),tagP A B (dataText m n0 t0 d0),S,_,_,⟨fun a b c=>by rw [a,b,c],rfl,rfl⟩,?_⟩
  have sA:A.size≤1000:=by omega
  have sB:B.size≤1000:=by omega
  refine ⟨fun W=>keys_Data A B n n0 t0 d0 ⟨sA,sB,by omega⟩ W,fun W=>keys_Data A B n n1 t1 d1 ⟨sA,sB,by omega⟩ W,fun W=>keys_Data A B m n0 t0 d0 ⟨sA,sB,by omega⟩ W,fun W=>say_gen h0,fun W=>say_gen h1,fun W v hr=>?_,fun W v hb hr=>?_,fun W hb=>?_,fun W v hb hr=>?_,fun W v hb hr=>?_⟩
  · have:=packet_Put (pk4 d0) 3 (fun i j=>(gM (L3 n0 t0 (tagP A B (dataText n n0 t0 d0))) i).c j) x y ⟨⟨allOp_c _ _,by rw [opF_c];exact few_3 h0⟩,by show d0.size≤_;omega⟩ v W hr
    rw [opF_c,hS1,hS2] at this
    exact this
  · have:=check_any A B n (pk4 d0) (hE.below hb) (few_3 h0) hr ⟨sA,sB,by show d0.size≤_;omega⟩
    rw [show (pk4 d0).data=d0 from rfl,hc0,if_pos rfl] at this
    exact this
  · have:=holds_any (w:=W) A B n 0 x y S (hE.below hb) ⟨sA,sB,hS3⟩
    rw [hhold] at this
    exact this
  · have:=check_any A B n ⟨4,false,0,0,0,0,0,0,0,0,0,d1⟩ (hE.below hb) (few_3 h1) hr ⟨sA,sB,by show d1.size≤_;omega⟩
    rw [hc1] at this
    exact this
  · have:=check_any A B m (pk4 d0) (hE.below hb) (few_3 h0) hr ⟨sA,sB,by show d0.size≤_;omega⟩
    rw [show (pk4 d0).data=d0 from rfl,hc0] at this
    exact this
set_option maxRecDepth 100000 in
set_option maxHeartbeats 4000000 in
theorem genuine_any {w:World} (kf:Nat→Int) (sd:Bool) (n0 n1 t0 t1:Int) (d0 d1:ByteArray) (x y:Int) (hE:ErrT w) (hn:(0≤n0∧n0 < 4294967296)∧(0≤n1∧n1 < 4294967296)) (ht:(0≤t0∧t0 < 65536)∧(0≤t1∧t1 < 65536)) (hz:d0.size≤maxLen∧d1.size≤maxLen) :
    Calls Tryz.prog 7 #[.agg #[.int .u8 (kf 0),.int .u8 (kf 1),.int .u8 (kf 2),.int .u8 (kf 3),.int .u8 (kf 4),.int .u8 (kf 5),.int .u8 (kf 6),.int .u8 (kf 7),.int .u8 (kf 8),.int .u8 (kf 9),.int .u8 (kf 10),.int .u8 (kf 11),.int .u8 (kf 12),.int .u8 (kf 13),.int .u8 (kf 14),.int .u8 (kf 15)],.bool sd,.agg #[.int .u32 n0,.int .u32 n1],.agg #[.int .u16 t0,.int .u16 t1],.agg #[.string d0,.string d1],.agg #[.int .i64 x,.int .i64 y]] w fun e w'=>e = .returned (.bool true)∧Below w.heap.size w w':=by
  have hwk:=fun W (h:Below w.heap.size w W)=>works40 (hE.below h)
  have hnw:∀ W,Calls Tryz.prog 23 #[.string (sA kf),.string (sB kf)] W fun e w'=>e = .returned (.tuple #[.agg #[.string (sA kf),.string (sB kf)],.int .i64 0])∧Below W.heap.size W w':=fun W=>by
    have:=keys_New (sA kf) (sB kf) W
    obtain ⟨e1,e2,e3⟩:=kAB (sA_size kf) (sB_size kf)
    rw [e1,e2,e3] at this
    exact this
  by_cases h0:(200:Int) < (d0.size:Int)
  · go_enter Tryz.func7,Tryz.ntmps7
    go_wp2_with (first
      | (go_at_call 8;(with_reducible refine (hwk _ (by (repeat' (first | (with_reducible exact Below.refl _ _) | (with_reducible refine below_alloc ?_ _) | (with_reducible refine Below.drew ?_) | (with_reducible refine below_drewN ?_ _) | (with_reducible refine Below.setCell ?_ ?_ _) | (with_reducible assumption) | (with_reducible refine below_of ?_ (by assumption)) | omega | (simp only [World.size_alloc,World.size_setCell,World.size_drew,size_drewN] at *;omega) | (simp;omega))))).mono ?_);rintro e w1 ⟨rfl,hb⟩;have hb1:Below w.heap.size w w1:=below_of (by (repeat' (first | (with_reducible exact Below.refl _ _) | (with_reducible refine below_alloc ?_ _) | (with_reducible refine Below.drew ?_) | (with_reducible refine below_drewN ?_ _) | (with_reducible refine Below.setCell ?_ ?_ _) | (with_reducible assumption) | (with_reducible refine below_of ?_ (by assumption)) | omega | (simp only [World.size_alloc,World.size_setCell,World.size_drew,size_drewN] at *;omega) | (simp;omega)))) hb;have hz:=hb.size;(try simp only [World.size_alloc,World.size_setCell,World.size_drew,size_drewN] at hz);apply own_step (B:=w.heap.size+1+1+1) hb;(focus (repeat (first | (with_reducible assumption) | (with_reducible exact own_new _ _ _) | ((with_reducible apply own_new');focus (first | omega | (simp;done) | (simp;omega))) | (with_reducible apply own_drewN) | (with_reducible apply own_drew) | (with_reducible apply own_alloc) | (with_reducible apply own_setT) | ((with_reducible apply own_set_otherH);focus (first | (simp;done) | (simp;omega))))));intro hO0;have hk0:=hO0.2.1;have hl0:=hO0.1;have hf0:=hO0.2.2;(try simp only [List.setIfInBounds_toArray,List.set_cons_zero,List.set_cons_succ] at hO0 hk0)))
    go_ret
    exact ⟨rfl,hb1⟩
  · by_cases h1 : (200:Int) < (d1.size:Int)
    · go_enter Tryz.func7,Tryz.ntmps7
      go_wp2_with (first
        | (go_at_call 8;(with_reducible refine (hwk _ (by (repeat' (first | (with_reducible exact Below.refl _ _) | (with_reducible refine below_alloc ?_ _) | (with_reducible refine Below.drew ?_) | (with_reducible refine below_drewN ?_ _) | (with_reducible refine Below.setCell ?_ ?_ _) | (with_reducible assumption) | (with_reducible refine below_of ?_ (by assumption)) | omega | (simp only [World.size_alloc,World.size_setCell,World.size_drew,size_drewN] at *;omega) | (simp;omega))))).mono ?_);rintro e w1 ⟨rfl,hb⟩;have hb1:Below w.heap.size w w1:=below_of (by (repeat' (first | (with_reducible exact Below.refl _ _) | (with_reducible refine below_alloc ?_ _) | (with_reducible refine Below.drew ?_) | (with_reducible refine below_drewN ?_ _) | (with_reducible refine Below.setCell ?_ ?_ _) | (with_reducible assumption) | (with_reducible refine below_of ?_ (by assumption)) | omega | (simp only [World.size_alloc,World.size_setCell,World.size_drew,size_drewN] at *;omega) | (simp;omega)))) hb;have hz:=hb.size;(try simp only [World.size_alloc,World.size_setCell,World.size_drew,size_drewN] at hz);apply own_step (B:=w.heap.size+1+1+1) hb;(focus (repeat (first | (with_reducible assumption) | (with_reducible exact own_new _ _ _) | ((with_reducible apply own_new');focus (first | omega | (simp;done) | (simp;omega))) | (with_reducible apply own_drewN) | (with_reducible apply own_drew) | (with_reducible apply own_alloc) | (with_reducible apply own_setT) | ((with_reducible apply own_set_otherH);focus (first | (simp;done) | (simp;omega))))));intro hO0;have hk0:=hO0.2.1;have hl0:=hO0.1;have hf0:=hO0.2.2;(try simp only [List.setIfInBounds_toArray,List.set_cons_zero,List.set_cons_succ] at hO0 hk0)))
      go_ret
      exact ⟨rfl,hb1⟩
    · go_enter Tryz.func7,Tryz.ntmps7
      go_upto_region 5 with (first
        | (go_at_call 8;(with_reducible refine (hwk _ (by (repeat' (first | (with_reducible exact Below.refl _ _) | (with_reducible refine below_alloc ?_ _) | (with_reducible refine Below.drew ?_) | (with_reducible refine below_drewN ?_ _) | (with_reducible refine Below.setCell ?_ ?_ _) | (with_reducible assumption) | (with_reducible refine below_of ?_ (by assumption)) | omega | (simp only [World.size_alloc,World.size_setCell,World.size_drew,size_drewN] at *;omega) | (simp;omega))))).mono ?_);rintro e w1 ⟨rfl,hb⟩;have hb1:Below w.heap.size w w1:=below_of (by (repeat' (first | (with_reducible exact Below.refl _ _) | (with_reducible refine below_alloc ?_ _) | (with_reducible refine Below.drew ?_) | (with_reducible refine below_drewN ?_ _) | (with_reducible refine Below.setCell ?_ ?_ _) | (with_reducible assumption) | (with_reducible refine below_of ?_ (by assumption)) | omega | (simp only [World.size_alloc,World.size_setCell,World.size_drew,size_drewN] at *;omega) | (simp;omega)))) hb;have hz:=hb.size;(try simp only [World.size_alloc,World.size_setCell,World.size_drew,size_drewN] at hz);apply own_step (B:=w.heap.size) hb;(focus (repeat (first | (with_reducible assumption) | (with_reducible exact own_new _ _ _) | ((with_reducible apply own_new');focus (first | omega | (simp;done) | (simp;omega))) | (with_reducible apply own_drewN) | (with_reducible apply own_drew) | (with_reducible apply own_alloc) | (with_reducible apply own_setT) | ((with_reducible apply own_set_otherH);focus (first | (simp;done) | (simp;omega))))));intro hO0;have hk0:=hO0.2.1;have hl0:=hO0.1;have hf0:=hO0.2.2;(try simp only [List.setIfInBounds_toArray,List.set_cons_zero,List.set_cons_succ] at hO0 hk0);apply own_step (B:=w.heap.size+1) hb;(focus (repeat (first | (with_reducible assumption) | (with_reducible exact own_new _ _ _) | ((with_reducible apply own_new');focus (first | omega | (simp;done) | (simp;omega))) | (with_reducible apply own_drewN) | (with_reducible apply own_drew) | (with_reducible apply own_alloc) | (with_reducible apply own_setT) | ((with_reducible apply own_set_otherH);focus (first | (simp;done) | (simp;omega))))));intro hO1;have hk1:=hO1.2.1;have hl1:=hO1.1;have hf1:=hO1.2.2;(try simp only [List.setIfInBounds_toArray,List.set_cons_zero,List.set_cons_succ] at hO1 hk1);apply own_step (B:=w.heap.size+1+1) hb;(focus (repeat (first | (with_reducible assumption) | (with_reducible exact own_new _ _ _) | ((with_reducible apply own_new');focus (first | omega | (simp;done) | (simp;omega))) | (with_reducible apply own_drewN) | (with_reducible apply own_drew) | (with_reducible apply own_alloc) | (with_reducible apply own_setT) | ((with_reducible apply own_set_otherH);focus (first | (simp;done) | (simp;omega))))));intro hO2;have hk2:=hO2.2.1;have hl2:=hO2.1;have hf2:=hO2.2.2;(try simp only [List.setIfInBounds_toArray,List.set_cons_zero,List.set_cons_succ] at hO2 hk2);apply own_step (B:=w.heap.size+1+1+1) hb;(focus (repeat (first | (with_reducible assumption) | (with_reducible exact own_new _ _ _) | ((with_reducible apply own_new');focus (first | omega | (simp;done) | (simp;omega))) | (with_reducible apply own_drewN) | (with_reducible apply own_drew) | (with_reducible apply own_alloc) | (with_reducible apply own_setT) | ((with_reducible apply own_set_otherH);focus (first | (simp;done) | (simp;omega))))));intro hO3;have hk3:=hO3.2.1;have hl3:=hO3.1;have hf3:=hO3.2.2;(try simp only [List.setIfInBounds_toArray,List.set_cons_zero,List.set_cons_succ] at hO3 hk3);apply own_step (B:=w.heap.size+1+1+1+1) hb;(focus (repeat (first | (with_reducible assumption) | (with_reducible exact own_new _ _ _) | ((with_reducible apply own_new');focus (first | omega | (simp;done) | (simp;omega))) | (with_reducible apply own_drewN) | (with_reducible apply own_drew) | (with_reducible apply own_alloc) | (with_reducible apply own_setT) | ((with_reducible apply own_set_otherH);focus (first | (simp;done) | (simp;omega))))));intro hO4;have hk4:=hO4.2.1;have hl4:=hO4.1;have hf4:=hO4.2.2;(try simp only [List.setIfInBounds_toArray,List.set_cons_zero,List.set_cons_succ] at hO4 hk4)))
      have cA:∀ V,Below w1.heap.size w1 V→(convert 60 9 (.slice (some ⟨w.heap.size,0,none⟩) 8 8)).run Tryz.prog V = .ok (.string (sA kf)) V:=fun V hV=>conv_u8 [kf 0,kf 1,kf 2,kf 3,kf 4,kf 5,kf 6,kf 7] (fun i hi=>by
        have hc:=(own_below hO0 hV).2.1 i
        rw [Nat.zero_add,hc]
        match i,hi with
        | 0,_=>rfl
        | 1,_=>rfl
        | 2,_=>rfl
        | 3,_=>rfl
        | 4,_=>rfl
        | 5,_=>rfl
        | 6,_=>rfl
        | 7,_=>rfl)
      have cB:∀ V,Below w1.heap.size w1 V→(convert 60 9 (.slice (some ⟨w.heap.size,8,none⟩) 8 8)).run Tryz.prog V = .ok (.string (sB kf)) V:=fun V hV=>conv_u8 [kf 8,kf 9,kf 10,kf 11,kf 12,kf 13,kf 14,kf 15] (fun i hi=>by
        have hc:=(own_below hO0 hV).2.1 (8+i)
        rw [hc]
        match i,hi with
        | 0,_=>rfl
        | 1,_=>rfl
        | 2,_=>rfl
        | 3,_=>rfl
        | 4,_=>rfl
        | 5,_=>rfl
        | 6,_=>rfl
        | 7,_=>rfl)
      generalize hsA:sA kf=A at *
      generalize hsB:sB kf=B at *
      go_cut [13,14] from 38 to 47 (fun s13 s14 wx=>∃ BP,s13 = .pointer (some ⟨BP,0,none⟩)∧s14 = .int .i64 0∧Own wx BP #[.string A,.string B]∧Below w1.heap.size w1 wx)
      case first =>
        have a1:=cA w1.drew (Below.refl _ _).drew
        have b1:=cB w1.drew (Below.refl _ _).drew
        have a2:=cA (w1.drew.alloc (.cells #[.string ⟨#[]⟩,.string ⟨#[]⟩] 27)) (by (repeat' (first | (with_reducible exact Below.refl _ _) | (with_reducible refine below_alloc ?_ _) | (with_reducible refine Below.drew ?_) | (with_reducible refine below_drewN ?_ _) | (with_reducible refine Below.setCell ?_ ?_ _) | (with_reducible assumption) | (with_reducible refine below_of ?_ (by assumption)) | omega | (simp only [World.size_alloc,World.size_setCell,World.size_drew,size_drewN] at *;omega) | (simp;omega))))
        have b2:=cB (w1.drew.alloc (.cells #[.string ⟨#[]⟩,.string ⟨#[]⟩] 27)) (by (repeat' (first | (with_reducible exact Below.refl _ _) | (with_reducible refine below_alloc ?_ _) | (with_reducible refine Below.drew ?_) | (with_reducible refine below_drewN ?_ _) | (with_reducible refine Below.setCell ?_ ?_ _) | (with_reducible assumption) | (with_reducible refine below_of ?_ (by assumption)) | omega | (simp only [World.size_alloc,World.size_setCell,World.size_drew,size_drewN] at *;omega) | (simp;omega))))
        have a3:=cA (w1.alloc (.cells #[.string ⟨#[]⟩,.string ⟨#[]⟩] 27)).drew (by (repeat' (first | (with_reducible exact Below.refl _ _) | (with_reducible refine below_alloc ?_ _) | (with_reducible refine Below.drew ?_) | (with_reducible refine below_drewN ?_ _) | (with_reducible refine Below.setCell ?_ ?_ _) | (with_reducible assumption) | (with_reducible refine below_of ?_ (by assumption)) | omega | (simp only [World.size_alloc,World.size_setCell,World.size_drew,size_drewN] at *;omega) | (simp;omega))))
        have b3:=cB (w1.alloc (.cells #[.string ⟨#[]⟩,.string ⟨#[]⟩] 27)).drew (by (repeat' (first | (with_reducible exact Below.refl _ _) | (with_reducible refine below_alloc ?_ _) | (with_reducible refine Below.drew ?_) | (with_reducible refine below_drewN ?_ _) | (with_reducible refine Below.setCell ?_ ?_ _) | (with_reducible assumption) | (with_reducible refine below_of ?_ (by assumption)) | omega | (simp only [World.size_alloc,World.size_setCell,World.size_drew,size_drewN] at *;omega) | (simp;omega))))
        clear cA cB hk0 hk1 hk2 hk3 hk4 hO1 hO2 hO3 hO4 hwk hz
        go_region_with (first | (go_at_call 23;(with_reducible refine (hnw _).mono ?_);rintro e w4 ⟨rfl,hb⟩;have hb4:Below w1.heap.size w1 w4:=below_of (by (repeat' (first | (with_reducible exact Below.refl _ _) | (with_reducible refine below_alloc ?_ _) | (with_reducible refine Below.drew ?_) | (with_reducible refine below_drewN ?_ _) | (with_reducible refine Below.setCell ?_ ?_ _) | (with_reducible assumption) | (with_reducible refine below_of ?_ (by assumption)) | omega | (simp only [World.size_alloc,World.size_setCell,World.size_drew,size_drewN] at *;omega) | (simp;omega)))) hb;first | (have hN:Own w4 w1.heap.size #[.string ⟨#[]⟩,.string ⟨#[]⟩]:=own_below (own_new w1.drew #[.string ⟨#[]⟩,.string ⟨#[]⟩] 27) hb;have hN0:=hN.2.1 0;have hN1:=hN.2.1 1;have hNf:=hN.2.2) | skip))
        all_goals (go_wp2_with fail;go_meet;refine ⟨_,rfl,rfl,?_⟩;first | (with_reducible exact pair_set hN hb4 (Nat.le_refl _) _ _) | (with_reducible exact pair_new hb4 _ _))
      obtain ⟨BP,rfl,rfl,hP,hbx⟩:=hcut
      have q1:=own_below hO1 hbx
      have q2:=own_below hO2 hbx
      have q3:=own_below hO3 hbx
      have q4:=own_below hO4 hbx
      have hb2:=below_of hb1 hbx
      clear hO0 hO1 hO2 hO3 hO4 hk0 hk1 hk2 hk3 hk4 hl0 hl1 hl2 hl3 hl4 hf0 hf1 hf2 hf3 hf4 hwk hnw cA cB hz hb hb1 hbx
      generalize w.heap.size+1+1+1+1=BA at *
      generalize w.heap.size+1+1+1=BD at *
      generalize w.heap.size+1+1=BT at *
      generalize w.heap.size+1=BN at *
      have hk0:=q1.2.1
      have hk1:=q2.2.1
      have hk2:=q3.2.1
      have hk3:=q4.2.1
      have hk4:=hP.2.1
      obtain ⟨⟨n00,n01⟩,n10,n11⟩:=hn
      obtain ⟨⟨t00,t01⟩,t10,t11⟩:=ht
      obtain ⟨G0,G1⟩:d0.size≤200∧d1.size≤200:=⟨by omega,by omega⟩
      obtain ⟨n,hnv⟩:∃ n:Int,n=if sd=true then 1 else 0:=⟨_,rfl⟩
      obtain ⟨m,hmv⟩:∃ m:Int,m=if sd=true then 0 else 1:=⟨_,rfl⟩
      obtain ⟨TG,T1,T2,S,Z1,Z2,hT,hF⟩:=facts_gen A B hE n m n0 n1 t0 t1 d0 d1 x y (by rw [← hsA];rfl) (by rw [← hsB];rfl) ⟨n00,n01,n10,n11⟩ ⟨t00,t01,t10,t11⟩ ⟨G0,G1⟩
      clear hsA hsB hE
      obtain ⟨hD0,hD1,hD2,hS0,hS1,hPut,hCX,hHo,hCY,hCM⟩:=hF
      cases sd
      all_goals
        simp only [if_true,if_false,Bool.false_eq_true] at hnv hmv
        subst hnv hmv
        go_upto_region 17 with (first
          | (go_at_call 24;(with_reducible refine (hD0 _).mono ?_);rintro e w3 ⟨rfl,hb⟩;have hb3:Below w.heap.size w w3:=below_of (by (repeat' (first | (with_reducible exact Below.refl _ _) | (with_reducible refine below_alloc ?_ _) | (with_reducible refine Below.drew ?_) | (with_reducible refine below_drewN ?_ _) | (with_reducible refine Below.setCell ?_ ?_ _) | (with_reducible assumption) | (with_reducible refine below_of ?_ (by assumption)) | omega | (simp only [World.size_alloc,World.size_setCell,World.size_drew,size_drewN] at *;omega) | (simp;omega)))) hb;have hz:=hb.size;(try simp only [World.size_alloc,World.size_setCell,World.size_drew,size_drewN] at hz);apply own_step (B:=BN) hb;(focus (repeat (first | (with_reducible assumption) | (with_reducible exact own_new _ _ _) | ((with_reducible apply own_new');focus (first | omega | (simp;done) | (simp;omega))) | (with_reducible apply own_drewN) | (with_reducible apply own_drew) | (with_reducible apply own_alloc) | (with_reducible apply own_setT) | ((with_reducible apply own_set_otherH);focus (first | (simp;done) | (simp;omega))))));intro hO0;have hk0:=hO0.2.1;have hl0:=hO0.1;have hf0:=hO0.2.2;(try simp only [List.setIfInBounds_toArray,List.set_cons_zero,List.set_cons_succ] at hO0 hk0);apply own_step (B:=BT) hb;(focus (repeat (first | (with_reducible assumption) | (with_reducible exact own_new _ _ _) | ((with_reducible apply own_new');focus (first | omega | (simp;done) | (simp;omega))) | (with_reducible apply own_drewN) | (with_reducible apply own_drew) | (with_reducible apply own_alloc) | (with_reducible apply own_setT) | ((with_reducible apply own_set_otherH);focus (first | (simp;done) | (simp;omega))))));intro hO1;have hk1:=hO1.2.1;have hl1:=hO1.1;have hf1:=hO1.2.2;(try simp only [List.setIfInBounds_toArray,List.set_cons_zero,List.set_cons_succ] at hO1 hk1);apply own_step (B:=BD) hb;(focus (repeat (first | (with_reducible assumption) | (with_reducible exact own_new _ _ _) | ((with_reducible apply own_new');focus (first | omega | (simp;done) | (simp;omega))) | (with_reducible apply own_drewN) | (with_reducible apply own_drew) | (with_reducible apply own_alloc) | (with_reducible apply own_setT) | ((with_reducible apply own_set_otherH);focus (first | (simp;done) | (simp;omega))))));intro hO2;have hk2:=hO2.2.1;have hl2:=hO2.1;have hf2:=hO2.2.2;(try simp only [List.setIfInBounds_toArray,List.set_cons_zero,List.set_cons_succ] at hO2 hk2);apply own_step (B:=BA) hb;(focus (repeat (first | (with_reducible assumption) | (with_reducible exact own_new _ _ _) | ((with_reducible apply own_new');focus (first | omega | (simp;done) | (simp;omega))) | (with_reducible apply own_drewN) | (with_reducible apply own_drew) | (with_reducible apply own_alloc) | (with_reducible apply own_setT) | ((with_reducible apply own_set_otherH);focus (first | (simp;done) | (simp;omega))))));intro hO3;have hk3:=hO3.2.1;have hl3:=hO3.1;have hf3:=hO3.2.2;(try simp only [List.setIfInBounds_toArray,List.set_cons_zero,List.set_cons_succ] at hO3 hk3);apply own_step (B:=BP) hb;(focus (repeat (first | (with_reducible assumption) | (with_reducible exact own_new _ _ _) | ((with_reducible apply own_new');focus (first | omega | (simp;done) | (simp;omega))) | (with_reducible apply own_drewN) | (with_reducible apply own_drew) | (with_reducible apply own_alloc) | (with_reducible apply own_setT) | ((with_reducible apply own_set_otherH);focus (first | (simp;done) | (simp;omega))))));intro hO4;have hk4:=hO4.2.1;have hl4:=hO4.1;have hf4:=hO4.2.2;(try simp only [List.setIfInBounds_toArray,List.set_cons_zero,List.set_cons_succ] at hO4 hk4))
          | (go_at_call 25;(with_reducible refine (hS0 _).mono ?_);rintro e w4 ⟨⟨pu,cu,rfl,hrow⟩,hb⟩;have hb4:Below w.heap.size w w4:=below_of (by (repeat' (first | (with_reducible exact Below.refl _ _) | (with_reducible refine below_alloc ?_ _) | (with_reducible refine Below.drew ?_) | (with_reducible refine below_drewN ?_ _) | (with_reducible refine Below.setCell ?_ ?_ _) | (with_reducible assumption) | (with_reducible refine below_of ?_ (by assumption)) | omega | (simp only [World.size_alloc,World.size_setCell,World.size_drew,size_drewN] at *;omega) | (simp;omega)))) hb;have hz:=hb.size;(try simp only [World.size_alloc,World.size_setCell,World.size_drew,size_drewN] at hz);apply own_step (B:=BN) hb;(focus (repeat (first | (with_reducible assumption) | (with_reducible exact own_new _ _ _) | ((with_reducible apply own_new');focus (first | omega | (simp;done) | (simp;omega))) | (with_reducible apply own_drewN) | (with_reducible apply own_drew) | (with_reducible apply own_alloc) | (with_reducible apply own_setT) | ((with_reducible apply own_set_otherH);focus (first | (simp;done) | (simp;omega))))));intro hO0;have hk0:=hO0.2.1;have hl0:=hO0.1;have hf0:=hO0.2.2;(try simp only [List.setIfInBounds_toArray,List.set_cons_zero,List.set_cons_succ] at hO0 hk0);apply own_step (B:=BT) hb;(focus (repeat (first | (with_reducible assumption) | (with_reducible exact own_new _ _ _) | ((with_reducible apply own_new');focus (first | omega | (simp;done) | (simp;omega))) | (with_reducible apply own_drewN) | (with_reducible apply own_drew) | (with_reducible apply own_alloc) | (with_reducible apply own_setT) | ((with_reducible apply own_set_otherH);focus (first | (simp;done) | (simp;omega))))));intro hO1;have hk1:=hO1.2.1;have hl1:=hO1.1;have hf1:=hO1.2.2;(try simp only [List.setIfInBounds_toArray,List.set_cons_zero,List.set_cons_succ] at hO1 hk1);apply own_step (B:=BD) hb;(focus (repeat (first | (with_reducible assumption) | (with_reducible exact own_new _ _ _) | ((with_reducible apply own_new');focus (first | omega | (simp;done) | (simp;omega))) | (with_reducible apply own_drewN) | (with_reducible apply own_drew) | (with_reducible apply own_alloc) | (with_reducible apply own_setT) | ((with_reducible apply own_set_otherH);focus (first | (simp;done) | (simp;omega))))));intro hO2;have hk2:=hO2.2.1;have hl2:=hO2.1;have hf2:=hO2.2.2;(try simp only [List.setIfInBounds_toArray,List.set_cons_zero,List.set_cons_succ] at hO2 hk2);apply own_step (B:=BA) hb;(focus (repeat (first | (with_reducible assumption) | (with_reducible exact own_new _ _ _) | ((with_reducible apply own_new');focus (first | omega | (simp;done) | (simp;omega))) | (with_reducible apply own_drewN) | (with_reducible apply own_drew) | (with_reducible apply own_alloc) | (with_reducible apply own_setT) | ((with_reducible apply own_set_otherH);focus (first | (simp;done) | (simp;omega))))));intro hO3;have hk3:=hO3.2.1;have hl3:=hO3.1;have hf3:=hO3.2.2;(try simp only [List.setIfInBounds_toArray,List.set_cons_zero,List.set_cons_succ] at hO3 hk3);apply own_step (B:=BP) hb;(focus (repeat (first | (with_reducible assumption) | (with_reducible exact own_new _ _ _) | ((with_reducible apply own_new');focus (first | omega | (simp;done) | (simp;omega))) | (with_reducible apply own_drewN) | (with_reducible apply own_drew) | (with_reducible apply own_alloc) | (with_reducible apply own_setT) | ((with_reducible apply own_set_otherH);focus (first | (simp;done) | (simp;omega))))));intro hO4;have hk4:=hO4.2.1;have hl4:=hO4.1;have hf4:=hO4.2.2;(try simp only [List.setIfInBounds_toArray,List.set_cons_zero,List.set_cons_succ] at hO4 hk4);have hrx:=row_belowF hrow ((Below.refl _ w4).alloc (Nat.le_refl _) (.cells #[.int .i64 4,.bool true,.int .i64 0,.int .i64 0,.int .i64 0,.int .i64 0,.int .i64 0,.int .i64 0,.int .i64 0,.int .i64 0,.int .i64 0,.slice pu 3 cu,.string d0] 31)))
          | (go_at_call 26;(with_reducible refine (hPut _ _ hrx).mono ?_);rintro e w5 ⟨rfl,hb⟩;have hb5:Below w.heap.size w w5:=below_of (by (repeat' (first | (with_reducible exact Below.refl _ _) | (with_reducible refine below_alloc ?_ _) | (with_reducible refine Below.drew ?_) | (with_reducible refine below_drewN ?_ _) | (with_reducible refine Below.setCell ?_ ?_ _) | (with_reducible assumption) | (with_reducible refine below_of ?_ (by assumption)) | omega | (simp only [World.size_alloc,World.size_setCell,World.size_drew,size_drewN] at *;omega) | (simp;omega)))) hb;have hz:=hb.size;(try simp only [World.size_alloc,World.size_setCell,World.size_drew,size_drewN] at hz);apply own_step (B:=BN) hb;(focus (repeat (first | (with_reducible assumption) | (with_reducible exact own_new _ _ _) | ((with_reducible apply own_new');focus (first | omega | (simp;done) | (simp;omega))) | (with_reducible apply own_drewN) | (with_reducible apply own_drew) | (with_reducible apply own_alloc) | (with_reducible apply own_setT) | ((with_reducible apply own_set_otherH);focus (first | (simp;done) | (simp;omega))))));intro hO0;have hk0:=hO0.2.1;have hl0:=hO0.1;have hf0:=hO0.2.2;(try simp only [List.setIfInBounds_toArray,List.set_cons_zero,List.set_cons_succ] at hO0 hk0);apply own_step (B:=BT) hb;(focus (repeat (first | (with_reducible assumption) | (with_reducible exact own_new _ _ _) | ((with_reducible apply own_new');focus (first | omega | (simp;done) | (simp;omega))) | (with_reducible apply own_drewN) | (with_reducible apply own_drew) | (with_reducible apply own_alloc) | (with_reducible apply own_setT) | ((with_reducible apply own_set_otherH);focus (first | (simp;done) | (simp;omega))))));intro hO1;have hk1:=hO1.2.1;have hl1:=hO1.1;have hf1:=hO1.2.2;(try simp only [List.setIfInBounds_toArray,List.set_cons_zero,List.set_cons_succ] at hO1 hk1);apply own_step (B:=BD) hb;(focus (repeat (first | (with_reducible assumption) | (with_reducible exact own_new _ _ _) | ((with_reducible apply own_new');focus (first | omega | (simp;done) | (simp;omega))) | (with_reducible apply own_drewN) | (with_reducible apply own_drew) | (with_reducible apply own_alloc) | (with_reducible apply own_setT) | ((with_reducible apply own_set_otherH);focus (first | (simp;done) | (simp;omega))))));intro hO2;have hk2:=hO2.2.1;have hl2:=hO2.1;have hf2:=hO2.2.2;(try simp only [List.setIfInBounds_toArray,List.set_cons_zero,List.set_cons_succ] at hO2 hk2);apply own_step (B:=BA) hb;(focus (repeat (first | (with_reducible assumption) | (with_reducible exact own_new _ _ _) | ((with_reducible apply own_new');focus (first | omega | (simp;done) | (simp;omega))) | (with_reducible apply own_drewN) | (with_reducible apply own_drew) | (with_reducible apply own_alloc) | (with_reducible apply own_setT) | ((with_reducible apply own_set_otherH);focus (first | (simp;done) | (simp;omega))))));intro hO3;have hk3:=hO3.2.1;have hl3:=hO3.1;have hf3:=hO3.2.2;(try simp only [List.setIfInBounds_toArray,List.set_cons_zero,List.set_cons_succ] at hO3 hk3);apply own_step (B:=BP) hb;(focus (repeat (first | (with_reducible assumption) | (with_reducible exact own_new _ _ _) | ((with_reducible apply own_new');focus (first | omega | (simp;done) | (simp;omega))) | (with_reducible apply own_drewN) | (with_reducible apply own_drew) | (with_reducible apply own_alloc) | (with_reducible apply own_setT) | ((with_reducible apply own_set_otherH);focus (first | (simp;done) | (simp;omega))))));intro hO4;have hk4:=hO4.2.1;have hl4:=hO4.1;have hf4:=hO4.2.2;(try simp only [List.setIfInBounds_toArray,List.set_cons_zero,List.set_cons_succ] at hO4 hk4);apply own_step (B:=w4.heap.size) hb;(focus (repeat (first | (with_reducible assumption) | (with_reducible exact own_new _ _ _) | ((with_reducible apply own_new');focus (first | omega | (simp;done) | (simp;omega))) | (with_reducible apply own_drewN) | (with_reducible apply own_drew) | (with_reducible apply own_alloc) | (with_reducible apply own_setT) | ((with_reducible apply own_set_otherH);focus (first | (simp;done) | (simp;omega))))));intro hO5;have hk5:=hO5.2.1;have hl5:=hO5.1;have hf5:=hO5.2.2;(try simp only [List.setIfInBounds_toArray,List.set_cons_zero,List.set_cons_succ] at hO5 hk5);replace hrx:=row_belowF hrx hb)
          | (go_at_call 11;(with_reducible refine (hCX _ _ (by (repeat' (first | (with_reducible exact Below.refl _ _) | (with_reducible refine below_alloc ?_ _) | (with_reducible refine Below.drew ?_) | (with_reducible refine below_drewN ?_ _) | (with_reducible refine Below.setCell ?_ ?_ _) | (with_reducible assumption) | (with_reducible refine below_of ?_ (by assumption)) | omega | (simp only [World.size_alloc,World.size_setCell,World.size_drew,size_drewN] at *;omega) | (simp;omega)))) hrx).mono ?_);rintro e w6 ⟨rfl,hb⟩;have hb6:Below w.heap.size w w6:=below_of (by (repeat' (first | (with_reducible exact Below.refl _ _) | (with_reducible refine below_alloc ?_ _) | (with_reducible refine Below.drew ?_) | (with_reducible refine below_drewN ?_ _) | (with_reducible refine Below.setCell ?_ ?_ _) | (with_reducible assumption) | (with_reducible refine below_of ?_ (by assumption)) | omega | (simp only [World.size_alloc,World.size_setCell,World.size_drew,size_drewN] at *;omega) | (simp;omega)))) hb;have hz:=hb.size;(try simp only [World.size_alloc,World.size_setCell,World.size_drew,size_drewN] at hz);apply own_step (B:=BN) hb;(focus (repeat (first | (with_reducible assumption) | (with_reducible exact own_new _ _ _) | ((with_reducible apply own_new');focus (first | omega | (simp;done) | (simp;omega))) | (with_reducible apply own_drewN) | (with_reducible apply own_drew) | (with_reducible apply own_alloc) | (with_reducible apply own_setT) | ((with_reducible apply own_set_otherH);focus (first | (simp;done) | (simp;omega))))));intro hO0;have hk0:=hO0.2.1;have hl0:=hO0.1;have hf0:=hO0.2.2;(try simp only [List.setIfInBounds_toArray,List.set_cons_zero,List.set_cons_succ] at hO0 hk0);apply own_step (B:=BT) hb;(focus (repeat (first | (with_reducible assumption) | (with_reducible exact own_new _ _ _) | ((with_reducible apply own_new');focus (first | omega | (simp;done) | (simp;omega))) | (with_reducible apply own_drewN) | (with_reducible apply own_drew) | (with_reducible apply own_alloc) | (with_reducible apply own_setT) | ((with_reducible apply own_set_otherH);focus (first | (simp;done) | (simp;omega))))));intro hO1;have hk1:=hO1.2.1;have hl1:=hO1.1;have hf1:=hO1.2.2;(try simp only [List.setIfInBounds_toArray,List.set_cons_zero,List.set_cons_succ] at hO1 hk1);apply own_step (B:=BD) hb;(focus (repeat (first | (with_reducible assumption) | (with_reducible exact own_new _ _ _) | ((with_reducible apply own_new');focus (first | omega | (simp;done) | (simp;omega))) | (with_reducible apply own_drewN) | (with_reducible apply own_drew) | (with_reducible apply own_alloc) | (with_reducible apply own_setT) | ((with_reducible apply own_set_otherH);focus (first | (simp;done) | (simp;omega))))));intro hO2;have hk2:=hO2.2.1;have hl2:=hO2.1;have hf2:=hO2.2.2;(try simp only [List.setIfInBounds_toArray,List.set_cons_zero,List.set_cons_succ] at hO2 hk2);apply own_step (B:=BA) hb;(focus (repeat (first | (with_reducible assumption) | (with_reducible exact own_new _ _ _) | ((with_reducible apply own_new');focus (first | omega | (simp;done) | (simp;omega))) | (with_reducible apply own_drewN) | (with_reducible apply own_drew) | (with_reducible apply own_alloc) | (with_reducible apply own_setT) | ((with_reducible apply own_set_otherH);focus (first | (simp;done) | (simp;omega))))));intro hO3;have hk3:=hO3.2.1;have hl3:=hO3.1;have hf3:=hO3.2.2;(try simp only [List.setIfInBounds_toArray,List.set_cons_zero,List.set_cons_succ] at hO3 hk3);apply own_step (B:=BP) hb;(focus (repeat (first | (with_reducible assumption) | (with_reducible exact own_new _ _ _) | ((with_reducible apply own_new');focus (first | omega | (simp;done) | (simp;omega))) | (with_reducible apply own_drewN) | (with_reducible apply own_drew) | (with_reducible apply own_alloc) | (with_reducible apply own_setT) | ((with_reducible apply own_set_otherH);focus (first | (simp;done) | (simp;omega))))));intro hO4;have hk4:=hO4.2.1;have hl4:=hO4.1;have hf4:=hO4.2.2;(try simp only [List.setIfInBounds_toArray,List.set_cons_zero,List.set_cons_succ] at hO4 hk4);apply own_step (B:=w4.heap.size) hb;(focus (repeat (first | (with_reducible assumption) | (with_reducible exact own_new _ _ _) | ((with_reducible apply own_new');focus (first | omega | (simp;done) | (simp;omega))) | (with_reducible apply own_drewN) | (with_reducible apply own_drew) | (with_reducible apply own_alloc) | (with_reducible apply own_setT) | ((with_reducible apply own_set_otherH);focus (first | (simp;done) | (simp;omega))))));intro hO5;have hk5:=hO5.2.1;have hl5:=hO5.1;have hf5:=hO5.2.2;(try simp only [List.setIfInBounds_toArray,List.set_cons_zero,List.set_cons_succ] at hO5 hk5);replace hrx:=row_belowF hrx hb)
          | (go_at_call 17;(with_reducible refine (hHo _ (by (repeat' (first | (with_reducible exact Below.refl _ _) | (with_reducible refine below_alloc ?_ _) | (with_reducible refine Below.drew ?_) | (with_reducible refine below_drewN ?_ _) | (with_reducible refine Below.setCell ?_ ?_ _) | (with_reducible assumption) | (with_reducible refine below_of ?_ (by assumption)) | omega | (simp only [World.size_alloc,World.size_setCell,World.size_drew,size_drewN] at *;omega) | (simp;omega))))).mono ?_);rintro e w7 ⟨rfl,hb⟩;have hb7:Below w.heap.size w w7:=below_of (by (repeat' (first | (with_reducible exact Below.refl _ _) | (with_reducible refine below_alloc ?_ _) | (with_reducible refine Below.drew ?_) | (with_reducible refine below_drewN ?_ _) | (with_reducible refine Below.setCell ?_ ?_ _) | (with_reducible assumption) | (with_reducible refine below_of ?_ (by assumption)) | omega | (simp only [World.size_alloc,World.size_setCell,World.size_drew,size_drewN] at *;omega) | (simp;omega)))) hb;have hz:=hb.size;(try simp only [World.size_alloc,World.size_setCell,World.size_drew,size_drewN] at hz);apply own_step (B:=BN) hb;(focus (repeat (first | (with_reducible assumption) | (with_reducible exact own_new _ _ _) | ((with_reducible apply own_new');focus (first | omega | (simp;done) | (simp;omega))) | (with_reducible apply own_drewN) | (with_reducible apply own_drew) | (with_reducible apply own_alloc) | (with_reducible apply own_setT) | ((with_reducible apply own_set_otherH);focus (first | (simp;done) | (simp;omega))))));intro hO0;have hk0:=hO0.2.1;have hl0:=hO0.1;have hf0:=hO0.2.2;(try simp only [List.setIfInBounds_toArray,List.set_cons_zero,List.set_cons_succ] at hO0 hk0);apply own_step (B:=BT) hb;(focus (repeat (first | (with_reducible assumption) | (with_reducible exact own_new _ _ _) | ((with_reducible apply own_new');focus (first | omega | (simp;done) | (simp;omega))) | (with_reducible apply own_drewN) | (with_reducible apply own_drew) | (with_reducible apply own_alloc) | (with_reducible apply own_setT) | ((with_reducible apply own_set_otherH);focus (first | (simp;done) | (simp;omega))))));intro hO1;have hk1:=hO1.2.1;have hl1:=hO1.1;have hf1:=hO1.2.2;(try simp only [List.setIfInBounds_toArray,List.set_cons_zero,List.set_cons_succ] at hO1 hk1);apply own_step (B:=BD) hb;(focus (repeat (first | (with_reducible assumption) | (with_reducible exact own_new _ _ _) | ((with_reducible apply own_new');focus (first | omega | (simp;done) | (simp;omega))) | (with_reducible apply own_drewN) | (with_reducible apply own_drew) | (with_reducible apply own_alloc) | (with_reducible apply own_setT) | ((with_reducible apply own_set_otherH);focus (first | (simp;done) | (simp;omega))))));intro hO2;have hk2:=hO2.2.1;have hl2:=hO2.1;have hf2:=hO2.2.2;(try simp only [List.setIfInBounds_toArray,List.set_cons_zero,List.set_cons_succ] at hO2 hk2);apply own_step (B:=BA) hb;(focus (repeat (first | (with_reducible assumption) | (with_reducible exact own_new _ _ _) | ((with_reducible apply own_new');focus (first | omega | (simp;done) | (simp;omega))) | (with_reducible apply own_drewN) | (with_reducible apply own_drew) | (with_reducible apply own_alloc) | (with_reducible apply own_setT) | ((with_reducible apply own_set_otherH);focus (first | (simp;done) | (simp;omega))))));intro hO3;have hk3:=hO3.2.1;have hl3:=hO3.1;have hf3:=hO3.2.2;(try simp only [List.setIfInBounds_toArray,List.set_cons_zero,List.set_cons_succ] at hO3 hk3);apply own_step (B:=BP) hb;(focus (repeat (first | (with_reducible assumption) | (with_reducible exact own_new _ _ _) | ((with_reducible apply own_new');focus (first | omega | (simp;done) | (simp;omega))) | (with_reducible apply own_drewN) | (with_reducible apply own_drew) | (with_reducible apply own_alloc) | (with_reducible apply own_setT) | ((with_reducible apply own_set_otherH);focus (first | (simp;done) | (simp;omega))))));intro hO4;have hk4:=hO4.2.1;have hl4:=hO4.1;have hf4:=hO4.2.2;(try simp only [List.setIfInBounds_toArray,List.set_cons_zero,List.set_cons_succ] at hO4 hk4);apply own_step (B:=w4.heap.size) hb;(focus (repeat (first | (with_reducible assumption) | (with_reducible exact own_new _ _ _) | ((with_reducible apply own_new');focus (first | omega | (simp;done) | (simp;omega))) | (with_reducible apply own_drewN) | (with_reducible apply own_drew) | (with_reducible apply own_alloc) | (with_reducible apply own_setT) | ((with_reducible apply own_set_otherH);focus (first | (simp;done) | (simp;omega))))));intro hO5;have hk5:=hO5.2.1;have hl5:=hO5.1;have hf5:=hO5.2.2;(try simp only [List.setIfInBounds_toArray,List.set_cons_zero,List.set_cons_succ] at hO5 hk5);replace hrx:=row_belowF hrx hb)
          | (go_at_call 25;(with_reducible refine (hS1 _).mono ?_);rintro e w8 ⟨⟨pv,cv,rfl,hrow⟩,hb⟩;have hb8:Below w.heap.size w w8:=below_of (by (repeat' (first | (with_reducible exact Below.refl _ _) | (with_reducible refine below_alloc ?_ _) | (with_reducible refine Below.drew ?_) | (with_reducible refine below_drewN ?_ _) | (with_reducible refine Below.setCell ?_ ?_ _) | (with_reducible assumption) | (with_reducible refine below_of ?_ (by assumption)) | omega | (simp only [World.size_alloc,World.size_setCell,World.size_drew,size_drewN] at *;omega) | (simp;omega)))) hb;have hz:=hb.size;(try simp only [World.size_alloc,World.size_setCell,World.size_drew,size_drewN] at hz);apply own_step (B:=BN) hb;(focus (repeat (first | (with_reducible assumption) | (with_reducible exact own_new _ _ _) | ((with_reducible apply own_new');focus (first | omega | (simp;done) | (simp;omega))) | (with_reducible apply own_drewN) | (with_reducible apply own_drew) | (with_reducible apply own_alloc) | (with_reducible apply own_setT) | ((with_reducible apply own_set_otherH);focus (first | (simp;done) | (simp;omega))))));intro hO0;have hk0:=hO0.2.1;have hl0:=hO0.1;have hf0:=hO0.2.2;(try simp only [List.setIfInBounds_toArray,List.set_cons_zero,List.set_cons_succ] at hO0 hk0);apply own_step (B:=BT) hb;(focus (repeat (first | (with_reducible assumption) | (with_reducible exact own_new _ _ _) | ((with_reducible apply own_new');focus (first | omega | (simp;done) | (simp;omega))) | (with_reducible apply own_drewN) | (with_reducible apply own_drew) | (with_reducible apply own_alloc) | (with_reducible apply own_setT) | ((with_reducible apply own_set_otherH);focus (first | (simp;done) | (simp;omega))))));intro hO1;have hk1:=hO1.2.1;have hl1:=hO1.1;have hf1:=hO1.2.2;(try simp only [List.setIfInBounds_toArray,List.set_cons_zero,List.set_cons_succ] at hO1 hk1);apply own_step (B:=BD) hb;(focus (repeat (first | (with_reducible assumption) | (with_reducible exact own_new _ _ _) | ((with_reducible apply own_new');focus (first | omega | (simp;done) | (simp;omega))) | (with_reducible apply own_drewN) | (with_reducible apply own_drew) | (with_reducible apply own_alloc) | (with_reducible apply own_setT) | ((with_reducible apply own_set_otherH);focus (first | (simp;done) | (simp;omega))))));intro hO2;have hk2:=hO2.2.1;have hl2:=hO2.1;have hf2:=hO2.2.2;(try simp only [List.setIfInBounds_toArray,List.set_cons_zero,List.set_cons_succ] at hO2 hk2);apply own_step (B:=BA) hb;(focus (repeat (first | (with_reducible assumption) | (with_reducible exact own_new _ _ _) | ((with_reducible apply own_new');focus (first | omega | (simp;done) | (simp;omega))) | (with_reducible apply own_drewN) | (with_reducible apply own_drew) | (with_reducible apply own_alloc) | (with_reducible apply own_setT) | ((with_reducible apply own_set_otherH);focus (first | (simp;done) | (simp;omega))))));intro hO3;have hk3:=hO3.2.1;have hl3:=hO3.1;have hf3:=hO3.2.2;(try simp only [List.setIfInBounds_toArray,List.set_cons_zero,List.set_cons_succ] at hO3 hk3);apply own_step (B:=BP) hb;(focus (repeat (first | (with_reducible assumption) | (with_reducible exact own_new _ _ _) | ((with_reducible apply own_new');focus (first | omega | (simp;done) | (simp;omega))) | (with_reducible apply own_drewN) | (with_reducible apply own_drew) | (with_reducible apply own_alloc) | (with_reducible apply own_setT) | ((with_reducible apply own_set_otherH);focus (first | (simp;done) | (simp;omega))))));intro hO4;have hk4:=hO4.2.1;have hl4:=hO4.1;have hf4:=hO4.2.2;(try simp only [List.setIfInBounds_toArray,List.set_cons_zero,List.set_cons_succ] at hO4 hk4);apply own_step (B:=w4.heap.size) hb;(focus (repeat (first | (with_reducible assumption) | (with_reducible exact own_new _ _ _) | ((with_reducible apply own_new');focus (first | omega | (simp;done) | (simp;omega))) | (with_reducible apply own_drewN) | (with_reducible apply own_drew) | (with_reducible apply own_alloc) | (with_reducible apply own_setT) | ((with_reducible apply own_set_otherH);focus (first | (simp;done) | (simp;omega))))));intro hO5;have hk5:=hO5.2.1;have hl5:=hO5.1;have hf5:=hO5.2.2;(try simp only [List.setIfInBounds_toArray,List.set_cons_zero,List.set_cons_succ] at hO5 hk5);have hry:=row_belowF hrow ((Below.refl _ w8).alloc (Nat.le_refl _) (.cells #[.int .i64 4,.bool false,.int .i64 0,.int .i64 0,.int .i64 0,.int .i64 0,.int .i64 0,.int .i64 0,.int .i64 0,.int .i64 0,.int .i64 0,.slice pv 3 cv,.string d1] 31))))
        have hy:=own_new w8 #[.int .i64 4,.bool false,.int .i64 0,.int .i64 0,.int .i64 0,.int .i64 0,.int .i64 0,.int .i64 0,.int .i64 0,.int .i64 0,.int .i64 0,.slice pv 3 cv,.string d1] 31
        have p1:=own_alloc hO0 (.cells #[.int .i64 4,.bool false,.int .i64 0,.int .i64 0,.int .i64 0,.int .i64 0,.int .i64 0,.int .i64 0,.int .i64 0,.int .i64 0,.int .i64 0,.slice pv 3 cv,.string d1] 31)
        have p2:=own_alloc hO1 (.cells #[.int .i64 4,.bool false,.int .i64 0,.int .i64 0,.int .i64 0,.int .i64 0,.int .i64 0,.int .i64 0,.int .i64 0,.int .i64 0,.int .i64 0,.slice pv 3 cv,.string d1] 31)
        have p3:=own_alloc hO2 (.cells #[.int .i64 4,.bool false,.int .i64 0,.int .i64 0,.int .i64 0,.int .i64 0,.int .i64 0,.int .i64 0,.int .i64 0,.int .i64 0,.int .i64 0,.slice pv 3 cv,.string d1] 31)
        have p5:=own_alloc hO4 (.cells #[.int .i64 4,.bool false,.int .i64 0,.int .i64 0,.int .i64 0,.int .i64 0,.int .i64 0,.int .i64 0,.int .i64 0,.int .i64 0,.int .i64 0,.slice pv 3 cv,.string d1] 31)
        have p6:=own_alloc hO5 (.cells #[.int .i64 4,.bool false,.int .i64 0,.int .i64 0,.int .i64 0,.int .i64 0,.int .i64 0,.int .i64 0,.int .i64 0,.int .i64 0,.int .i64 0,.slice pv 3 cv,.string d1] 31)
        have hrX:=row_belowF (row_belowF hrx hb) ((Below.refl _ w8).alloc (Nat.le_refl _) (.cells #[.int .i64 4,.bool false,.int .i64 0,.int .i64 0,.int .i64 0,.int .i64 0,.int .i64 0,.int .i64 0,.int .i64 0,.int .i64 0,.int .i64 0,.slice pv 3 cv,.string d1] 31))
        have hbW:=below_alloc hb8 (.cells #[.int .i64 4,.bool false,.int .i64 0,.int .i64 0,.int .i64 0,.int .i64 0,.int .i64 0,.int .i64 0,.int .i64 0,.int .i64 0,.int .i64 0,.slice pv 3 cv,.string d1] 31)
        clear hD0 hS0 hS1 hPut hCX hHo hO0 hO1 hO2 hO3 hO4 hO5 hk0 hk1 hk2 hk3 hk4 hk5 hl0 hl1 hl2 hl3 hl4 hl5 hf0 hf1 hf2 hf3 hf4 hf5 hz hb hb8 hrow hrx
        generalize World.alloc w8 (.cells #[.int .i64 4,.bool false,.int .i64 0,.int .i64 0,.int .i64 0,.int .i64 0,.int .i64 0,.int .i64 0,.int .i64 0,.int .i64 0,.int .i64 0,.slice pv 3 cv,.string d1] 31)=W at hy p1 p2 p3 p5 p6 hrX hry hbW ⊢
        generalize w4.heap.size=BX at *
        generalize w8.heap.size=BY at *
        have hk0:=p1.2.1
        have hk1:=p2.2.1
        have hk2:=p3.2.1
        have hk4:=p5.2.1
        have hk5:=p6.2.1
        have hk6:=hy.2.1
        go_cut [25] from 130 to 148 (fun s25 wx=>s25 = .bool (decide (n0=n1) && (decide (t0=t1) && decide (d0=d1)))∧wx=W)
        case first =>
          clear hD1 hD2 hCY hCM hrX hry
          by_cases e1:n0=n1
          · subst e1
            by_cases e2:t0=t1
            · subst e2
              by_cases e3:d0=d1
              · have e3b:(d0.toList == d1.toList)=true:=by rw [← beq_toListBytes,Go.MapKept.bytes_beq];exact e3
                have e3d:=decide_eq_true e3
                clear e3
                go_wp2_with fail
                go_meet
                exact ⟨by rw [e3d];simp,rfl⟩
              · have e3b:(d0.toList == d1.toList)=false:=by rw [← beq_toListBytes,← Bool.not_eq_true,Go.MapKept.bytes_beq];exact e3
                go_wp2_with fail
                go_meet
                exact ⟨by simp [e3],rfl⟩
            · have e2b:((t0:Int) == t1)=false:=by rw [beq_eq_false_iff_ne];exact e2
              have e2d:decide (t0=t1)=false:=decide_eq_false e2
              go_wp2_with fail
              go_meet
              exact ⟨by simp [e2],rfl⟩
          · have e1b:((n0:Int) == n1)=false:=by rw [beq_eq_false_iff_ne];exact e1
            have e1d:decide (n0=n1)=false:=decide_eq_false e1
            go_wp2_with fail
            go_meet
            exact ⟨by simp [e1],rfl⟩
        obtain ⟨rfl,rfl⟩:=hcut
        obtain ⟨hT1,hZ1,hZ2⟩:=hT
        have hsm:(decide (n0=n1) && (decide (t0=t1) && decide (d0=d1)))=true→T1=TG:=fun e=>by
          simp only [Bool.and_eq_true,decide_eq_true_eq] at e
          exact hT1 e.1 e.2.1 e.2.2
        clear hT1
        generalize (decide (n0=n1) && (decide (t0=t1) && decide (d0=d1)))=sm at *
        by_cases h2:TG=T2
        · have h2b:(T2.toList == TG.toList)=true:=by rw [← beq_toListBytes,Go.MapKept.bytes_beq];exact h2.symm
          obtain ⟨b1,hb1⟩:∃ b,(T1.toList == TG.toList)=b:=⟨_,rfl⟩
          clear hZ1 hZ2 hCY hCM hrX hry h2
          cases b1 <;> cases sm
          all_goals
            go_wp2_with (first
              | (go_at_call 24;(with_reducible refine (hD1 _).mono ?_);rintro e w9 ⟨rfl,hb⟩;have hb9:Below w.heap.size w w9:=below_of (by (repeat' (first | (with_reducible exact Below.refl _ _) | (with_reducible refine below_alloc ?_ _) | (with_reducible refine Below.drew ?_) | (with_reducible refine below_drewN ?_ _) | (with_reducible refine Below.setCell ?_ ?_ _) | (with_reducible assumption) | (with_reducible refine below_of ?_ (by assumption)) | omega | (simp only [World.size_alloc,World.size_setCell,World.size_drew,size_drewN] at *;omega) | (simp;omega)))) hb;have hz:=hb.size;(try simp only [World.size_alloc,World.size_setCell,World.size_drew,size_drewN] at hz);apply own_step (B:=BN) hb;(focus (repeat (first | (with_reducible assumption) | (with_reducible exact own_new _ _ _) | ((with_reducible apply own_new');focus (first | omega | (simp;done) | (simp;omega))) | (with_reducible apply own_drewN) | (with_reducible apply own_drew) | (with_reducible apply own_alloc) | (with_reducible apply own_setT) | ((with_reducible apply own_set_otherH);focus (first | (simp;done) | (simp;omega))))));intro hO0;have hk0:=hO0.2.1;have hl0:=hO0.1;have hf0:=hO0.2.2;(try simp only [List.setIfInBounds_toArray,List.set_cons_zero,List.set_cons_succ] at hO0 hk0);apply own_step (B:=BT) hb;(focus (repeat (first | (with_reducible assumption) | (with_reducible exact own_new _ _ _) | ((with_reducible apply own_new');focus (first | omega | (simp;done) | (simp;omega))) | (with_reducible apply own_drewN) | (with_reducible apply own_drew) | (with_reducible apply own_alloc) | (with_reducible apply own_setT) | ((with_reducible apply own_set_otherH);focus (first | (simp;done) | (simp;omega))))));intro hO1;have hk1:=hO1.2.1;have hl1:=hO1.1;have hf1:=hO1.2.2;(try simp only [List.setIfInBounds_toArray,List.set_cons_zero,List.set_cons_succ] at hO1 hk1);apply own_step (B:=BD) hb;(focus (repeat (first | (with_reducible assumption) | (with_reducible exact own_new _ _ _) | ((with_reducible apply own_new');focus (first | omega | (simp;done) | (simp;omega))) | (with_reducible apply own_drewN) | (with_reducible apply own_drew) | (with_reducible apply own_alloc) | (with_reducible apply own_setT) | ((with_reducible apply own_set_otherH);focus (first | (simp;done) | (simp;omega))))));intro hO2;have hk2:=hO2.2.1;have hl2:=hO2.1;have hf2:=hO2.2.2;(try simp only [List.setIfInBounds_toArray,List.set_cons_zero,List.set_cons_succ] at hO2 hk2);apply own_step (B:=BP) hb;(focus (repeat (first | (with_reducible assumption) | (with_reducible exact own_new _ _ _) | ((with_reducible apply own_new');focus (first | omega | (simp;done) | (simp;omega))) | (with_reducible apply own_drewN) | (with_reducible apply own_drew) | (with_reducible apply own_alloc) | (with_reducible apply own_setT) | ((with_reducible apply own_set_otherH);focus (first | (simp;done) | (simp;omega))))));intro hO3;have hk3:=hO3.2.1;have hl3:=hO3.1;have hf3:=hO3.2.2;(try simp only [List.setIfInBounds_toArray,List.set_cons_zero,List.set_cons_succ] at hO3 hk3))
              | (go_at_call 24;(with_reducible refine (hD2 _).mono ?_);rintro e wa ⟨rfl,hb⟩;have hba:Below w.heap.size w wa:=below_of (by (repeat' (first | (with_reducible exact Below.refl _ _) | (with_reducible refine below_alloc ?_ _) | (with_reducible refine Below.drew ?_) | (with_reducible refine below_drewN ?_ _) | (with_reducible refine Below.setCell ?_ ?_ _) | (with_reducible assumption) | (with_reducible refine below_of ?_ (by assumption)) | omega | (simp only [World.size_alloc,World.size_setCell,World.size_drew,size_drewN] at *;omega) | (simp;omega)))) hb))
            go_ret
            exact ⟨rfl,by (repeat' (first | (with_reducible exact Below.refl _ _) | (with_reducible refine below_alloc ?_ _) | (with_reducible refine Below.drew ?_) | (with_reducible refine below_drewN ?_ _) | (with_reducible refine Below.setCell ?_ ?_ _) | (with_reducible assumption) | (with_reducible refine below_of ?_ (by assumption)) | omega | (simp only [World.size_alloc,World.size_setCell,World.size_drew,size_drewN] at *;omega) | (simp;omega)))⟩
        · have h2b:(T2.toList == TG.toList)=false:=by rw [← beq_toListBytes,← Bool.not_eq_true,Go.MapKept.bytes_beq];exact fun e=>h2 e.symm
          rw [if_neg h2] at hZ2
          subst hZ2
          by_cases h1:TG=T1
          · subst h1
            rw [if_pos rfl] at hZ1
            subst hZ1
            have h1b:(TG.toList == TG.toList)=true:=by rw [← beq_toListBytes,Go.MapKept.bytes_beq]
            clear h2
            cases sm
            · go_wp2_with (first
                | (go_at_call 24;(with_reducible refine (hD1 _).mono ?_);rintro e w9 ⟨rfl,hb⟩;have hb9:Below w.heap.size w w9:=below_of (by (repeat' (first | (with_reducible exact Below.refl _ _) | (with_reducible refine below_alloc ?_ _) | (with_reducible refine Below.drew ?_) | (with_reducible refine below_drewN ?_ _) | (with_reducible refine Below.setCell ?_ ?_ _) | (with_reducible assumption) | (with_reducible refine below_of ?_ (by assumption)) | omega | (simp only [World.size_alloc,World.size_setCell,World.size_drew,size_drewN] at *;omega) | (simp;omega)))) hb;have hz:=hb.size;(try simp only [World.size_alloc,World.size_setCell,World.size_drew,size_drewN] at hz);apply own_step (B:=BN) hb;(focus (repeat (first | (with_reducible assumption) | (with_reducible exact own_new _ _ _) | ((with_reducible apply own_new');focus (first | omega | (simp;done) | (simp;omega))) | (with_reducible apply own_drewN) | (with_reducible apply own_drew) | (with_reducible apply own_alloc) | (with_reducible apply own_setT) | ((with_reducible apply own_set_otherH);focus (first | (simp;done) | (simp;omega))))));intro hO0;have hk0:=hO0.2.1;have hl0:=hO0.1;have hf0:=hO0.2.2;(try simp only [List.setIfInBounds_toArray,List.set_cons_zero,List.set_cons_succ] at hO0 hk0);apply own_step (B:=BT) hb;(focus (repeat (first | (with_reducible assumption) | (with_reducible exact own_new _ _ _) | ((with_reducible apply own_new');focus (first | omega | (simp;done) | (simp;omega))) | (with_reducible apply own_drewN) | (with_reducible apply own_drew) | (with_reducible apply own_alloc) | (with_reducible apply own_setT) | ((with_reducible apply own_set_otherH);focus (first | (simp;done) | (simp;omega))))));intro hO1;have hk1:=hO1.2.1;have hl1:=hO1.1;have hf1:=hO1.2.2;(try simp only [List.setIfInBounds_toArray,List.set_cons_zero,List.set_cons_succ] at hO1 hk1);apply own_step (B:=BD) hb;(focus (repeat (first | (with_reducible assumption) | (with_reducible exact own_new _ _ _) | ((with_reducible apply own_new');focus (first | omega | (simp;done) | (simp;omega))) | (with_reducible apply own_drewN) | (with_reducible apply own_drew) | (with_reducible apply own_alloc) | (with_reducible apply own_setT) | ((with_reducible apply own_set_otherH);focus (first | (simp;done) | (simp;omega))))));intro hO2;have hk2:=hO2.2.1;have hl2:=hO2.1;have hf2:=hO2.2.2;(try simp only [List.setIfInBounds_toArray,List.set_cons_zero,List.set_cons_succ] at hO2 hk2);apply own_step (B:=BP) hb;(focus (repeat (first | (with_reducible assumption) | (with_reducible exact own_new _ _ _) | ((with_reducible apply own_new');focus (first | omega | (simp;done) | (simp;omega))) | (with_reducible apply own_drewN) | (with_reducible apply own_drew) | (with_reducible apply own_alloc) | (with_reducible apply own_setT) | ((with_reducible apply own_set_otherH);focus (first | (simp;done) | (simp;omega))))));intro hO3;have hk3:=hO3.2.1;have hl3:=hO3.1;have hf3:=hO3.2.2;(try simp only [List.setIfInBounds_toArray,List.set_cons_zero,List.set_cons_succ] at hO3 hk3)))
              go_ret
              exact ⟨rfl,by (repeat' (first | (with_reducible exact Below.refl _ _) | (with_reducible refine below_alloc ?_ _) | (with_reducible refine Below.drew ?_) | (with_reducible refine below_drewN ?_ _) | (with_reducible refine Below.setCell ?_ ?_ _) | (with_reducible assumption) | (with_reducible refine below_of ?_ (by assumption)) | omega | (simp only [World.size_alloc,World.size_setCell,World.size_drew,size_drewN] at *;omega) | (simp;omega)))⟩
            · go_wp2_with (first
                | (go_at_call 24;(with_reducible refine (hD1 _).mono ?_);rintro e w9 ⟨rfl,hb⟩;have hb9:Below w.heap.size w w9:=below_of (by (repeat' (first | (with_reducible exact Below.refl _ _) | (with_reducible refine below_alloc ?_ _) | (with_reducible refine Below.drew ?_) | (with_reducible refine below_drewN ?_ _) | (with_reducible refine Below.setCell ?_ ?_ _) | (with_reducible assumption) | (with_reducible refine below_of ?_ (by assumption)) | omega | (simp only [World.size_alloc,World.size_setCell,World.size_drew,size_drewN] at *;omega) | (simp;omega)))) hb;have hz:=hb.size;(try simp only [World.size_alloc,World.size_setCell,World.size_drew,size_drewN] at hz);apply own_step (B:=BN) hb;(focus (repeat (first | (with_reducible assumption) | (with_reducible exact own_new _ _ _) | ((with_reducible apply own_new');focus (first | omega | (simp;done) | (simp;omega))) | (with_reducible apply own_drewN) | (with_reducible apply own_drew) | (with_reducible apply own_alloc) | (with_reducible apply own_setT) | ((with_reducible apply own_set_otherH);focus (first | (simp;done) | (simp;omega))))));intro hO0;have hk0:=hO0.2.1;have hl0:=hO0.1;have hf0:=hO0.2.2;(try simp only [List.setIfInBounds_toArray,List.set_cons_zero,List.set_cons_succ] at hO0 hk0);apply own_step (B:=BT) hb;(focus (repeat (first | (with_reducible assumption) | (with_reducible exact own_new _ _ _) | ((with_reducible apply own_new');focus (first | omega | (simp;done) | (simp;omega))) | (with_reducible apply own_drewN) | (with_reducible apply own_drew) | (with_reducible apply own_alloc) | (with_reducible apply own_setT) | ((with_reducible apply own_set_otherH);focus (first | (simp;done) | (simp;omega))))));intro hO1;have hk1:=hO1.2.1;have hl1:=hO1.1;have hf1:=hO1.2.2;(try simp only [List.setIfInBounds_toArray,List.set_cons_zero,List.set_cons_succ] at hO1 hk1);apply own_step (B:=BD) hb;(focus (repeat (first | (with_reducible assumption) | (with_reducible exact own_new _ _ _) | ((with_reducible apply own_new');focus (first | omega | (simp;done) | (simp;omega))) | (with_reducible apply own_drewN) | (with_reducible apply own_drew) | (with_reducible apply own_alloc) | (with_reducible apply own_setT) | ((with_reducible apply own_set_otherH);focus (first | (simp;done) | (simp;omega))))));intro hO2;have hk2:=hO2.2.1;have hl2:=hO2.1;have hf2:=hO2.2.2;(try simp only [List.setIfInBounds_toArray,List.set_cons_zero,List.set_cons_succ] at hO2 hk2);apply own_step (B:=BP) hb;(focus (repeat (first | (with_reducible assumption) | (with_reducible exact own_new _ _ _) | ((with_reducible apply own_new');focus (first | omega | (simp;done) | (simp;omega))) | (with_reducible apply own_drewN) | (with_reducible apply own_drew) | (with_reducible apply own_alloc) | (with_reducible apply own_setT) | ((with_reducible apply own_set_otherH);focus (first | (simp;done) | (simp;omega))))));intro hO3;have hk3:=hO3.2.1;have hl3:=hO3.1;have hf3:=hO3.2.2;(try simp only [List.setIfInBounds_toArray,List.set_cons_zero,List.set_cons_succ] at hO3 hk3);apply own_step (B:=BX) hb;(focus (repeat (first | (with_reducible assumption) | (with_reducible exact own_new _ _ _) | ((with_reducible apply own_new');focus (first | omega | (simp;done) | (simp;omega))) | (with_reducible apply own_drewN) | (with_reducible apply own_drew) | (with_reducible apply own_alloc) | (with_reducible apply own_setT) | ((with_reducible apply own_set_otherH);focus (first | (simp;done) | (simp;omega))))));intro hO4;have hk4:=hO4.2.1;have hl4:=hO4.1;have hf4:=hO4.2.2;(try simp only [List.setIfInBounds_toArray,List.set_cons_zero,List.set_cons_succ] at hO4 hk4);apply own_step (B:=BY) hb;(focus (repeat (first | (with_reducible assumption) | (with_reducible exact own_new _ _ _) | ((with_reducible apply own_new');focus (first | omega | (simp;done) | (simp;omega))) | (with_reducible apply own_drewN) | (with_reducible apply own_drew) | (with_reducible apply own_alloc) | (with_reducible apply own_setT) | ((with_reducible apply own_set_otherH);focus (first | (simp;done) | (simp;omega))))));intro hO5;have hk5:=hO5.2.1;have hl5:=hO5.1;have hf5:=hO5.2.2;(try simp only [List.setIfInBounds_toArray,List.set_cons_zero,List.set_cons_succ] at hO5 hk5);replace hrX:=row_belowF hrX hb;replace hry:=row_belowF hry hb)
                | (go_at_call 24;(with_reducible refine (hD2 _).mono ?_);rintro e wa ⟨rfl,hb⟩;have hba:Below w.heap.size w wa:=below_of (by (repeat' (first | (with_reducible exact Below.refl _ _) | (with_reducible refine below_alloc ?_ _) | (with_reducible refine Below.drew ?_) | (with_reducible refine below_drewN ?_ _) | (with_reducible refine Below.setCell ?_ ?_ _) | (with_reducible assumption) | (with_reducible refine below_of ?_ (by assumption)) | omega | (simp only [World.size_alloc,World.size_setCell,World.size_drew,size_drewN] at *;omega) | (simp;omega)))) hb;have hz:=hb.size;(try simp only [World.size_alloc,World.size_setCell,World.size_drew,size_drewN] at hz);apply own_step (B:=BP) hb;(focus (repeat (first | (with_reducible assumption) | (with_reducible exact own_new _ _ _) | ((with_reducible apply own_new');focus (first | omega | (simp;done) | (simp;omega))) | (with_reducible apply own_drewN) | (with_reducible apply own_drew) | (with_reducible apply own_alloc) | (with_reducible apply own_setT) | ((with_reducible apply own_set_otherH);focus (first | (simp;done) | (simp;omega))))));intro hO0;have hk0:=hO0.2.1;have hl0:=hO0.1;have hf0:=hO0.2.2;(try simp only [List.setIfInBounds_toArray,List.set_cons_zero,List.set_cons_succ] at hO0 hk0);apply own_step (B:=BX) hb;(focus (repeat (first | (with_reducible assumption) | (with_reducible exact own_new _ _ _) | ((with_reducible apply own_new');focus (first | omega | (simp;done) | (simp;omega))) | (with_reducible apply own_drewN) | (with_reducible apply own_drew) | (with_reducible apply own_alloc) | (with_reducible apply own_setT) | ((with_reducible apply own_set_otherH);focus (first | (simp;done) | (simp;omega))))));intro hO1;have hk1:=hO1.2.1;have hl1:=hO1.1;have hf1:=hO1.2.2;(try simp only [List.setIfInBounds_toArray,List.set_cons_zero,List.set_cons_succ] at hO1 hk1);apply own_step (B:=BY) hb;(focus (repeat (first | (with_reducible assumption) | (with_reducible exact own_new _ _ _) | ((with_reducible apply own_new');focus (first | omega | (simp;done) | (simp;omega))) | (with_reducible apply own_drewN) | (with_reducible apply own_drew) | (with_reducible apply own_alloc) | (with_reducible apply own_setT) | ((with_reducible apply own_set_otherH);focus (first | (simp;done) | (simp;omega))))));intro hO2;have hk2:=hO2.2.1;have hl2:=hO2.1;have hf2:=hO2.2.2;(try simp only [List.setIfInBounds_toArray,List.set_cons_zero,List.set_cons_succ] at hO2 hk2);replace hrX:=row_belowF hrX hb;replace hry:=row_belowF hry hb)
                | (go_at_call 11;(with_reducible refine (hCY _ _ (by (repeat' (first | (with_reducible exact Below.refl _ _) | (with_reducible refine below_alloc ?_ _) | (with_reducible refine Below.drew ?_) | (with_reducible refine below_drewN ?_ _) | (with_reducible refine Below.setCell ?_ ?_ _) | (with_reducible assumption) | (with_reducible refine below_of ?_ (by assumption)) | omega | (simp only [World.size_alloc,World.size_setCell,World.size_drew,size_drewN] at *;omega) | (simp;omega)))) hry).mono ?_);rintro e wb ⟨rfl,hb⟩;have hbb:Below w.heap.size w wb:=below_of (by (repeat' (first | (with_reducible exact Below.refl _ _) | (with_reducible refine below_alloc ?_ _) | (with_reducible refine Below.drew ?_) | (with_reducible refine below_drewN ?_ _) | (with_reducible refine Below.setCell ?_ ?_ _) | (with_reducible assumption) | (with_reducible refine below_of ?_ (by assumption)) | omega | (simp only [World.size_alloc,World.size_setCell,World.size_drew,size_drewN] at *;omega) | (simp;omega)))) hb;have hz:=hb.size;(try simp only [World.size_alloc,World.size_setCell,World.size_drew,size_drewN] at hz);apply own_step (B:=BP) hb;(focus (repeat (first | (with_reducible assumption) | (with_reducible exact own_new _ _ _) | ((with_reducible apply own_new');focus (first | omega | (simp;done) | (simp;omega))) | (with_reducible apply own_drewN) | (with_reducible apply own_drew) | (with_reducible apply own_alloc) | (with_reducible apply own_setT) | ((with_reducible apply own_set_otherH);focus (first | (simp;done) | (simp;omega))))));intro hO0;have hk0:=hO0.2.1;have hl0:=hO0.1;have hf0:=hO0.2.2;(try simp only [List.setIfInBounds_toArray,List.set_cons_zero,List.set_cons_succ] at hO0 hk0);apply own_step (B:=BX) hb;(focus (repeat (first | (with_reducible assumption) | (with_reducible exact own_new _ _ _) | ((with_reducible apply own_new');focus (first | omega | (simp;done) | (simp;omega))) | (with_reducible apply own_drewN) | (with_reducible apply own_drew) | (with_reducible apply own_alloc) | (with_reducible apply own_setT) | ((with_reducible apply own_set_otherH);focus (first | (simp;done) | (simp;omega))))));intro hO1;have hk1:=hO1.2.1;have hl1:=hO1.1;have hf1:=hO1.2.2;(try simp only [List.setIfInBounds_toArray,List.set_cons_zero,List.set_cons_succ] at hO1 hk1);replace hrX:=row_belowF hrX hb)
                | (go_at_call 11;(with_reducible refine (hCM _ _ (by (repeat' (first | (with_reducible exact Below.refl _ _) | (with_reducible refine below_alloc ?_ _) | (with_reducible refine Below.drew ?_) | (with_reducible refine below_drewN ?_ _) | (with_reducible refine Below.setCell ?_ ?_ _) | (with_reducible assumption) | (with_reducible refine below_of ?_ (by assumption)) | omega | (simp only [World.size_alloc,World.size_setCell,World.size_drew,size_drewN] at *;omega) | (simp;omega)))) hrX).mono ?_);rintro e wc ⟨rfl,hb⟩;have hbc:Below w.heap.size w wc:=below_of (by (repeat' (first | (with_reducible exact Below.refl _ _) | (with_reducible refine below_alloc ?_ _) | (with_reducible refine Below.drew ?_) | (with_reducible refine below_drewN ?_ _) | (with_reducible refine Below.setCell ?_ ?_ _) | (with_reducible assumption) | (with_reducible refine below_of ?_ (by assumption)) | omega | (simp only [World.size_alloc,World.size_setCell,World.size_drew,size_drewN] at *;omega) | (simp;omega)))) hb))
              go_ret
              exact ⟨rfl,by (repeat' (first | (with_reducible exact Below.refl _ _) | (with_reducible refine below_alloc ?_ _) | (with_reducible refine Below.drew ?_) | (with_reducible refine below_drewN ?_ _) | (with_reducible refine Below.setCell ?_ ?_ _) | (with_reducible assumption) | (with_reducible refine below_of ?_ (by assumption)) | omega | (simp only [World.size_alloc,World.size_setCell,World.size_drew,size_drewN] at *;omega) | (simp;omega)))⟩
          · rw [if_neg h1] at hZ1
            subst hZ1
            have h1b:(T1.toList == TG.toList)=false:=by rw [← beq_toListBytes,← Bool.not_eq_true,Go.MapKept.bytes_beq];exact fun e=>h1 e.symm
            obtain rfl:sm=false:=by
              cases sm with
              | false=>rfl
              | true=>exact absurd (hsm rfl).symm h1
            clear h1 h2
            go_wp2_with (first
              | (go_at_call 24;(with_reducible refine (hD1 _).mono ?_);rintro e w9 ⟨rfl,hb⟩;have hb9:Below w.heap.size w w9:=below_of (by (repeat' (first | (with_reducible exact Below.refl _ _) | (with_reducible refine below_alloc ?_ _) | (with_reducible refine Below.drew ?_) | (with_reducible refine below_drewN ?_ _) | (with_reducible refine Below.setCell ?_ ?_ _) | (with_reducible assumption) | (with_reducible refine below_of ?_ (by assumption)) | omega | (simp only [World.size_alloc,World.size_setCell,World.size_drew,size_drewN] at *;omega) | (simp;omega)))) hb;have hz:=hb.size;(try simp only [World.size_alloc,World.size_setCell,World.size_drew,size_drewN] at hz);apply own_step (B:=BN) hb;(focus (repeat (first | (with_reducible assumption) | (with_reducible exact own_new _ _ _) | ((with_reducible apply own_new');focus (first | omega | (simp;done) | (simp;omega))) | (with_reducible apply own_drewN) | (with_reducible apply own_drew) | (with_reducible apply own_alloc) | (with_reducible apply own_setT) | ((with_reducible apply own_set_otherH);focus (first | (simp;done) | (simp;omega))))));intro hO0;have hk0:=hO0.2.1;have hl0:=hO0.1;have hf0:=hO0.2.2;(try simp only [List.setIfInBounds_toArray,List.set_cons_zero,List.set_cons_succ] at hO0 hk0);apply own_step (B:=BT) hb;(focus (repeat (first | (with_reducible assumption) | (with_reducible exact own_new _ _ _) | ((with_reducible apply own_new');focus (first | omega | (simp;done) | (simp;omega))) | (with_reducible apply own_drewN) | (with_reducible apply own_drew) | (with_reducible apply own_alloc) | (with_reducible apply own_setT) | ((with_reducible apply own_set_otherH);focus (first | (simp;done) | (simp;omega))))));intro hO1;have hk1:=hO1.2.1;have hl1:=hO1.1;have hf1:=hO1.2.2;(try simp only [List.setIfInBounds_toArray,List.set_cons_zero,List.set_cons_succ] at hO1 hk1);apply own_step (B:=BD) hb;(focus (repeat (first | (with_reducible assumption) | (with_reducible exact own_new _ _ _) | ((with_reducible apply own_new');focus (first | omega | (simp;done) | (simp;omega))) | (with_reducible apply own_drewN) | (with_reducible apply own_drew) | (with_reducible apply own_alloc) | (with_reducible apply own_setT) | ((with_reducible apply own_set_otherH);focus (first | (simp;done) | (simp;omega))))));intro hO2;have hk2:=hO2.2.1;have hl2:=hO2.1;have hf2:=hO2.2.2;(try simp only [List.setIfInBounds_toArray,List.set_cons_zero,List.set_cons_succ] at hO2 hk2);apply own_step (B:=BP) hb;(focus (repeat (first | (with_reducible assumption) | (with_reducible exact own_new _ _ _) | ((with_reducible apply own_new');focus (first | omega | (simp;done) | (simp;omega))) | (with_reducible apply own_drewN) | (with_reducible apply own_drew) | (with_reducible apply own_alloc) | (with_reducible apply own_setT) | ((with_reducible apply own_set_otherH);focus (first | (simp;done) | (simp;omega))))));intro hO3;have hk3:=hO3.2.1;have hl3:=hO3.1;have hf3:=hO3.2.2;(try simp only [List.setIfInBounds_toArray,List.set_cons_zero,List.set_cons_succ] at hO3 hk3);apply own_step (B:=BX) hb;(focus (repeat (first | (with_reducible assumption) | (with_reducible exact own_new _ _ _) | ((with_reducible apply own_new');focus (first | omega | (simp;done) | (simp;omega))) | (with_reducible apply own_drewN) | (with_reducible apply own_drew) | (with_reducible apply own_alloc) | (with_reducible apply own_setT) | ((with_reducible apply own_set_otherH);focus (first | (simp;done) | (simp;omega))))));intro hO4;have hk4:=hO4.2.1;have hl4:=hO4.1;have hf4:=hO4.2.2;(try simp only [List.setIfInBounds_toArray,List.set_cons_zero,List.set_cons_succ] at hO4 hk4);apply own_step (B:=BY) hb;(focus (repeat (first | (with_reducible assumption) | (with_reducible exact own_new _ _ _) | ((with_reducible apply own_new');focus (first | omega | (simp;done) | (simp;omega))) | (with_reducible apply own_drewN) | (with_reducible apply own_drew) | (with_reducible apply own_alloc) | (with_reducible apply own_setT) | ((with_reducible apply own_set_otherH);focus (first | (simp;done) | (simp;omega))))));intro hO5;have hk5:=hO5.2.1;have hl5:=hO5.1;have hf5:=hO5.2.2;(try simp only [List.setIfInBounds_toArray,List.set_cons_zero,List.set_cons_succ] at hO5 hk5);replace hrX:=row_belowF hrX hb;replace hry:=row_belowF hry hb)
              | (go_at_call 24;(with_reducible refine (hD2 _).mono ?_);rintro e wa ⟨rfl,hb⟩;have hba:Below w.heap.size w wa:=below_of (by (repeat' (first | (with_reducible exact Below.refl _ _) | (with_reducible refine below_alloc ?_ _) | (with_reducible refine Below.drew ?_) | (with_reducible refine below_drewN ?_ _) | (with_reducible refine Below.setCell ?_ ?_ _) | (with_reducible assumption) | (with_reducible refine below_of ?_ (by assumption)) | omega | (simp only [World.size_alloc,World.size_setCell,World.size_drew,size_drewN] at *;omega) | (simp;omega)))) hb;have hz:=hb.size;(try simp only [World.size_alloc,World.size_setCell,World.size_drew,size_drewN] at hz);apply own_step (B:=BP) hb;(focus (repeat (first | (with_reducible assumption) | (with_reducible exact own_new _ _ _) | ((with_reducible apply own_new');focus (first | omega | (simp;done) | (simp;omega))) | (with_reducible apply own_drewN) | (with_reducible apply own_drew) | (with_reducible apply own_alloc) | (with_reducible apply own_setT) | ((with_reducible apply own_set_otherH);focus (first | (simp;done) | (simp;omega))))));intro hO0;have hk0:=hO0.2.1;have hl0:=hO0.1;have hf0:=hO0.2.2;(try simp only [List.setIfInBounds_toArray,List.set_cons_zero,List.set_cons_succ] at hO0 hk0);apply own_step (B:=BX) hb;(focus (repeat (first | (with_reducible assumption) | (with_reducible exact own_new _ _ _) | ((with_reducible apply own_new');focus (first | omega | (simp;done) | (simp;omega))) | (with_reducible apply own_drewN) | (with_reducible apply own_drew) | (with_reducible apply own_alloc) | (with_reducible apply own_setT) | ((with_reducible apply own_set_otherH);focus (first | (simp;done) | (simp;omega))))));intro hO1;have hk1:=hO1.2.1;have hl1:=hO1.1;have hf1:=hO1.2.2;(try simp only [List.setIfInBounds_toArray,List.set_cons_zero,List.set_cons_succ] at hO1 hk1);apply own_step (B:=BY) hb;(focus (repeat (first | (with_reducible assumption) | (with_reducible exact own_new _ _ _) | ((with_reducible apply own_new');focus (first | omega | (simp;done) | (simp;omega))) | (with_reducible apply own_drewN) | (with_reducible apply own_drew) | (with_reducible apply own_alloc) | (with_reducible apply own_setT) | ((with_reducible apply own_set_otherH);focus (first | (simp;done) | (simp;omega))))));intro hO2;have hk2:=hO2.2.1;have hl2:=hO2.1;have hf2:=hO2.2.2;(try simp only [List.setIfInBounds_toArray,List.set_cons_zero,List.set_cons_succ] at hO2 hk2);replace hrX:=row_belowF hrX hb;replace hry:=row_belowF hry hb)
              | (go_at_call 11;(with_reducible refine (hCY _ _ (by (repeat' (first | (with_reducible exact Below.refl _ _) | (with_reducible refine below_alloc ?_ _) | (with_reducible refine Below.drew ?_) | (with_reducible refine below_drewN ?_ _) | (with_reducible refine Below.setCell ?_ ?_ _) | (with_reducible assumption) | (with_reducible refine below_of ?_ (by assumption)) | omega | (simp only [World.size_alloc,World.size_setCell,World.size_drew,size_drewN] at *;omega) | (simp;omega)))) hry).mono ?_);rintro e wb ⟨rfl,hb⟩;have hbb:Below w.heap.size w wb:=below_of (by (repeat' (first | (with_reducible exact Below.refl _ _) | (with_reducible refine below_alloc ?_ _) | (with_reducible refine Below.drew ?_) | (with_reducible refine below_drewN ?_ _) | (with_reducible refine Below.setCell ?_ ?_ _) | (with_reducible assumption) | (with_reducible refine below_of ?_ (by assumption)) | omega | (simp only [World.size_alloc,World.size_setCell,World.size_drew,size_drewN] at *;omega) | (simp;omega)))) hb;have hz:=hb.size;(try simp only [World.size_alloc,World.size_setCell,World.size_drew,size_drewN] at hz);apply own_step (B:=BP) hb;(focus (repeat (first | (with_reducible assumption) | (with_reducible exact own_new _ _ _) | ((with_reducible apply own_new');focus (first | omega | (simp;done) | (simp;omega))) | (with_reducible apply own_drewN) | (with_reducible apply own_drew) | (with_reducible apply own_alloc) | (with_reducible apply own_setT) | ((with_reducible apply own_set_otherH);focus (first | (simp;done) | (simp;omega))))));intro hO0;have hk0:=hO0.2.1;have hl0:=hO0.1;have hf0:=hO0.2.2;(try simp only [List.setIfInBounds_toArray,List.set_cons_zero,List.set_cons_succ] at hO0 hk0);apply own_step (B:=BX) hb;(focus (repeat (first | (with_reducible assumption) | (with_reducible exact own_new _ _ _) | ((with_reducible apply own_new');focus (first | omega | (simp;done) | (simp;omega))) | (with_reducible apply own_drewN) | (with_reducible apply own_drew) | (with_reducible apply own_alloc) | (with_reducible apply own_setT) | ((with_reducible apply own_set_otherH);focus (first | (simp;done) | (simp;omega))))));intro hO1;have hk1:=hO1.2.1;have hl1:=hO1.1;have hf1:=hO1.2.2;(try simp only [List.setIfInBounds_toArray,List.set_cons_zero,List.set_cons_succ] at hO1 hk1);replace hrX:=row_belowF hrX hb)
              | (go_at_call 11;(with_reducible refine (hCM _ _ (by (repeat' (first | (with_reducible exact Below.refl _ _) | (with_reducible refine below_alloc ?_ _) | (with_reducible refine Below.drew ?_) | (with_reducible refine below_drewN ?_ _) | (with_reducible refine Below.setCell ?_ ?_ _) | (with_reducible assumption) | (with_reducible refine below_of ?_ (by assumption)) | omega | (simp only [World.size_alloc,World.size_setCell,World.size_drew,size_drewN] at *;omega) | (simp;omega)))) hrX).mono ?_);rintro e wc ⟨rfl,hb⟩;have hbc:Below w.heap.size w wc:=below_of (by (repeat' (first | (with_reducible exact Below.refl _ _) | (with_reducible refine below_alloc ?_ _) | (with_reducible refine Below.drew ?_) | (with_reducible refine below_drewN ?_ _) | (with_reducible refine Below.setCell ?_ ?_ _) | (with_reducible assumption) | (with_reducible refine below_of ?_ (by assumption)) | omega | (simp only [World.size_alloc,World.size_setCell,World.size_drew,size_drewN] at *;omega) | (simp;omega)))) hb))
            go_ret
            exact ⟨rfl,by (repeat' (first | (with_reducible exact Below.refl _ _) | (with_reducible refine below_alloc ?_ _) | (with_reducible refine Below.drew ?_) | (with_reducible refine below_drewN ?_ _) | (with_reducible refine Below.setCell ?_ ?_ _) | (with_reducible assumption) | (with_reducible refine below_of ?_ (by assumption)) | omega | (simp only [World.size_alloc,World.size_setCell,World.size_drew,size_drewN] at *;omega) | (simp;omega)))⟩
end Go.Proofs.YthacfgaacleaeaaGreatDoor
namespace Go.Proofs.YthacfgaacleaeaaGreatDoor
open Go.IntKind (i64 u32)
open Go.ChangeShapes Go.WideShapes Go.ChangeAt Go.RowKit Sym Go.ChangeMaps
theorem laid_tabG {W:World} (h:laidMetH Tryz.prog Rows.forgeGenuineRow.laid W):TabW W:=laid_tab h
theorem door_metG (os:Os) (args:Array Value):laidMetH Tryz.prog Rows.forgeGenuineRow.laid ((World.doorLaid Tryz.prog 24 os).forCall (fun _ _=>0) ⟨#[],args,[]⟩).memory:=door_met os args
theorem wf_u32 {z:Int} (h:(Lit.int .u32 z).wf=true):0≤z∧z < 4294967296:=by
  have e1:u32.min=0:=by decide
  have e2:u32.max=4294967295:=by decide
  simp only [Lit.wf,e1,e2,Bool.and_eq_true,decide_eq_true_eq] at h
  omega
theorem wf_u16 {z:Int} (h:(Lit.int .u16 z).wf=true):0≤z∧z < 65536:=by
  have e1:IntKind.u16.min=0:=by decide
  have e2:IntKind.u16.max=65535:=by decide
  simp only [Lit.wf,e1,e2,Bool.and_eq_true,decide_eq_true_eq] at h
  omega
set_option maxRecDepth 100000 in
theorem open_2 {H:Type} {enc:TypeId×Value→H} {W:World} {base b0:Nat} {r:Reach} {v:Value} {d:DataW H} {p:List MemPlace} {sp:Nat→Bool} {t e:TypeId} {k:IntKind} (ht:Tryz.prog.underlying t=some (.array 2 e)) (he:Tryz.prog.underlying e=some (.int k)) (hct:Tryz.prog.cellsOf t=2) (hce:Tryz.prog.cellsOf e=1)
    (hv:Value.okWide Tryz.prog W r b0 t v) (h:DataW.Trod enc Tryz.prog W base sp true t v d p) :
    ∃ a b:Int,v = .agg #[.int k a,.int k b]∧(Lit.int k a).wf=true∧(Lit.int k b).wf=true:=by
  simp only [Value.okWide,ht] at hv
  obtain ⟨cs,rfl,hsz,-⟩:=hv
  rw [hct] at hsz
  obtain ⟨l⟩:=cs
  obtain ⟨fuel,hf⟩:=h
  have hl:l.length=2:=by simpa using hsz
  match l,hl with
  | [x,y],_ =>
    have hf:DataW.trod enc Tryz.prog W base sp true fuel t [x,y]=some (d,p):=hf
    obtain ⟨xs,m,-,-,-,hlen,hg⟩:=DataW.trod_array ht hf
    have one:∀ i,i < 2→∀ c,(([x,y]:List Value).drop i).take 1=[c]→∃ s:Int,c = .int k s∧(Lit.int k s).wf=true:=by
      intro i hi c hc
      obtain ⟨u,hu⟩:∃ u,xs[i]?=some u:=⟨_,List.getElem?_eq_getElem (by rw [hlen];exact hi)⟩
      rw [← hg i hi,hce,Nat.mul_one,hc] at hu
      obtain ⟨s,e,-,hz⟩:=DataW.trod_int he hu
      simp at e
      exact ⟨s,e,hz⟩
    obtain ⟨a,rfl,ha⟩:=one 0 (by decide) x rfl
    obtain ⟨b,rfl,hb⟩:=one 1 (by decide) y rfl
    exact ⟨a,b,rfl,ha,hb⟩
set_option maxRecDepth 100000 in
set_option maxHeartbeats 2000000 in
theorem open_k {H:Type} {enc:TypeId×Value→H} {W:World} {base b0:Nat} {r:Reach} {v:Value} {d:DataW H} {p:List MemPlace} {sp:Nat→Bool} (hv:Value.okWide Tryz.prog W r b0 53 v) (h:DataW.Trod enc Tryz.prog W base sp true 53 v d p) :
    ∃ kf:Nat→Int,v = .agg #[.int .u8 (kf 0),.int .u8 (kf 1),.int .u8 (kf 2),.int .u8 (kf 3),.int .u8 (kf 4),.int .u8 (kf 5),.int .u8 (kf 6),.int .u8 (kf 7),.int .u8 (kf 8),.int .u8 (kf 9),.int .u8 (kf 10),.int .u8 (kf 11),.int .u8 (kf 12),.int .u8 (kf 13),.int .u8 (kf 14),.int .u8 (kf 15)]:=by
  simp only [Value.okWide,Tryz.underlying53] at hv
  obtain ⟨cs,rfl,hsz,-⟩:=hv
  rw [show Tryz.prog.cellsOf 53=16 from by kernel_rfl] at hsz
  obtain ⟨l⟩:=cs
  obtain ⟨fuel,hf⟩:=h
  have hl:l.length=16:=by simpa using hsz
  have hf:DataW.trod enc Tryz.prog W base sp true fuel 53 l=some (d,p):=hf
  obtain ⟨xs,m,-,-,-,hlen,hg⟩:=DataW.trod_array Tryz.underlying53 hf
  have c8:Tryz.prog.cellsOf 52=8:=by kernel_rfl
  have c1:Tryz.prog.cellsOf 5=1:=by kernel_rfl
  have one:∀ i,i < 2→∀ j,j < 8→∀ c,((((l.drop (i * 8)).take 8).drop j).take 1)=[c]→∃ s:Int,c = .int .u8 s:=by
    intro i hi j hj c hc
    obtain ⟨u,hu⟩:∃ u,xs[i]?=some u:=⟨_,List.getElem?_eq_getElem (by rw [hlen];exact hi)⟩
    rw [← hg i hi,c8] at hu
    obtain ⟨ys,m2,-,-,-,hlen2,hg2⟩:=DataW.trod_array Tryz.underlying52 hu
    obtain ⟨u2,hu2⟩:∃ u,ys[j]?=some u:=⟨_,List.getElem?_eq_getElem (by rw [hlen2];exact hj)⟩
    rw [← hg2 j hj,c1,Nat.mul_one,hc] at hu2
    obtain ⟨s,e,-,-⟩:=DataW.trod_int Tryz.underlying5 hu2
    simp at e
    exact ⟨s,e⟩
  clear hg hf hlen
  match l,hl with
  | [c0,c1,c2,c3,c4,c5,c6,c7,c8,c9,c10,c11,c12,c13,c14,c15],_ =>
    obtain ⟨z0,rfl⟩:=one 0 (by decide) 0 (by decide) c0 rfl
    obtain ⟨z1,rfl⟩:=one 0 (by decide) 1 (by decide) c1 rfl
    obtain ⟨z2,rfl⟩:=one 0 (by decide) 2 (by decide) c2 rfl
    obtain ⟨z3,rfl⟩:=one 0 (by decide) 3 (by decide) c3 rfl
    obtain ⟨z4,rfl⟩:=one 0 (by decide) 4 (by decide) c4 rfl
    obtain ⟨z5,rfl⟩:=one 0 (by decide) 5 (by decide) c5 rfl
    obtain ⟨z6,rfl⟩:=one 0 (by decide) 6 (by decide) c6 rfl
    obtain ⟨z7,rfl⟩:=one 0 (by decide) 7 (by decide) c7 rfl
    obtain ⟨z8,rfl⟩:=one 1 (by decide) 0 (by decide) c8 rfl
    obtain ⟨z9,rfl⟩:=one 1 (by decide) 1 (by decide) c9 rfl
    obtain ⟨z10,rfl⟩:=one 1 (by decide) 2 (by decide) c10 rfl
    obtain ⟨z11,rfl⟩:=one 1 (by decide) 3 (by decide) c11 rfl
    obtain ⟨z12,rfl⟩:=one 1 (by decide) 4 (by decide) c12 rfl
    obtain ⟨z13,rfl⟩:=one 1 (by decide) 5 (by decide) c13 rfl
    obtain ⟨z14,rfl⟩:=one 1 (by decide) 6 (by decide) c14 rfl
    obtain ⟨z15,rfl⟩:=one 1 (by decide) 7 (by decide) c15 rfl
    exact ⟨fun i=>([z0,z1,z2,z3,z4,z5,z6,z7,z8,z9,z10,z11,z12,z13,z14,z15]:List Int).getD i 0,rfl⟩
set_option maxRecDepth 100000 in
theorem forgeGenuine_walk {H:Type} {enc:TypeId×Value→H} {W:World} {base:Nat} {sp:Nat→Bool} {v0 v1 v2 v3 v4 v5:Value} {d0 d1 d2 d3 d4 d5:DataW H} {p0 p1 p2 p3 p4 p5:List MemPlace}
    (a0:Value.okWide Tryz.prog W .any base 53 v0) (h0:DataW.Trod enc Tryz.prog W 0 sp true 53 v0 d0 p0)
    (a1:Value.okWide Tryz.prog W .any base 4 v1) (h1:DataW.Trod enc Tryz.prog W 0 sp true 4 v1 d1 p1)
    (a2:Value.okWide Tryz.prog W .any base 55 v2) (h2:DataW.Trod enc Tryz.prog W 0 sp true 55 v2 d2 p2)
    (a3:Value.okWide Tryz.prog W .any base 57 v3) (h3:DataW.Trod enc Tryz.prog W 0 sp true 57 v3 d3 p3)
    (a4:Value.okWide Tryz.prog W .any base 22 v4) (h4:DataW.Trod enc Tryz.prog W 0 sp true 22 v4 d4 p4)
    (a5:Value.okWide Tryz.prog W .any base 40 v5) (h5:DataW.Trod enc Tryz.prog W 0 sp true 40 v5 d5 p5) (ht:TabW W) :
    Calls Tryz.prog 7 #[v0,v1,v2,v3,v4,v5] W fun e W'=>e = .returned (.bool true)∧Below W.heap.size W W':=by
  obtain ⟨kf,rfl⟩:=open_k a0 h0
  obtain ⟨sd,rfl,-,-⟩:=open_bool Tryz.underlying4 a1 h1
  obtain ⟨n0,n1,rfl,w0,w1⟩:=open_2 Tryz.underlying55 Tryz.underlying54 (by kernel_rfl) (by kernel_rfl) a2 h2
  obtain ⟨t0,t1,rfl,u0,u1⟩:=open_2 Tryz.underlying57 Tryz.underlying56 (by kernel_rfl) (by kernel_rfl) a3 h3
  obtain ⟨x0,x1,rfl,y0,y1⟩:=open_str2 a4 h4
  obtain ⟨cs,rfl,hsz⟩:=okWide_struct Tryz.underlying40 a5
  rw [show Tryz.prog.cellsOf 40=2 from by kernel_rfl] at hsz
  obtain ⟨l⟩:=cs
  obtain ⟨f_c,t_c,rfl⟩:=list2 l (by simpa using hsz)
  obtain ⟨fuel,hf⟩:=h5
  obtain ⟨xs,n,_,_,_,hlen,hg⟩:=DataW.trod_struct Tryz.underlying40 hf
  obtain ⟨y,hy⟩:∃ y,xs[0]?=some y:=⟨_,List.getElem?_eq_getElem (by rw [hlen];decide)⟩
  rw [← hg 0 _ rfl] at hy
  simp [Value.cells,show Tryz.prog.cellsOf 3=1 from by kernel_rfl] at hy
  obtain ⟨f,e,_,w_f⟩:=DataW.trod_int Tryz.underlying3 hy
  simp at e
  subst e
  clear hy
  obtain ⟨y,hy⟩:∃ y,xs[1]?=some y:=⟨_,List.getElem?_eq_getElem (by rw [hlen];decide)⟩
  rw [← hg 1 _ rfl] at hy
  simp [Value.cells,show Tryz.prog.cellsOf 3=1 from by kernel_rfl] at hy
  obtain ⟨t,e,_,w_t⟩:=DataW.trod_int Tryz.underlying3 hy
  simp at e
  subst e
  clear hy
  clear hg hlen hf hsz
  exact genuine_any kf sd n0 n1 t0 t1 x0 x1 f t ht ⟨wf_u32 w0,wf_u32 w1⟩ ⟨wf_u16 u0,wf_u16 u1⟩ ⟨y0,y1⟩
end Go.Proofs.YthacfgaacleaeaaGreatDoor

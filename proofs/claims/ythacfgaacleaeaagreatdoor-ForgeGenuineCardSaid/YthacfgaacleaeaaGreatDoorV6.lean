/- Parts of a proof: HdA,HdC,Ref09,PlNu,HdB,InA,PaA,FgR,FgS,FgT,FgU,FgV,FgW,PaB,Tl. No conditions. -/
import Derived.Test.YthacfgaacleaeaaGreatDoorV5
import Derived.PlainAid
import Derived.Deep.RegionHeld3
import Derived.Deep.QuietTactic
import Derived.BigQuiet
set_option linter.unusedVariables false
set_option linter.unusedSimpArgs false
namespace Go.Proofs.YthacfgaacleaeaaGreatDoor.Head
open Go.IntKind (i64 u32)
def known (k:Int):Bool:=decide (0≤k∧k≤9)
def acks (k:Int):Bool:=decide (k=1 ∨ (3≤k∧k≤9))
def bears (k:Int):Bool:=decide (k=0 ∨ k=1 ∨ k=2 ∨ k=4)
def more (k:Int):Bool:=decide (k=0 ∨ k=1 ∨ k=7)
def brief (k:Int):Bool:=decide (k=2 ∨ k=3 ∨ k=4)
def size (k:Int) (long:Bool):Int :=
  if known k=false ∨ (long=false∧brief k=false) then 0
  else (if long then 16 else 12)+(if acks k then (if long then 8 else 4) else 0)+(if more k then 4 else 0)
def of5 (k:Int):Bool×Bool×Bool×Bool×Bool :=
  if (k == 1)=true then (true,true,true,true,false) else if (k == 0)=true then (true,false,true,true,false) else if (k == 4)=true then (true,true,true,false,true)
  else if (k == 2)=true then (true,false,true,false,true) else if (k == 3)=true then (true,true,false,false,true) else if (k == 7)=true then (true,true,false,true,false)
  else if (k == 5)=true then (true,true,false,false,false) else if (k == 6)=true then (true,true,false,false,false) else if (k == 8)=true then (true,true,false,false,false)
  else if (k == 9)=true then (true,true,false,false,false) else (false,false,false,false,false)
theorem of5_eq (k:Int):of5 k=(known k,acks k,bears k,more k,brief k):=by
  unfold of5 known acks bears more brief
  simp only [beq_iff_eq]
  repeat' split
  all_goals (try subst k)
  all_goals (first | decide | (simp only [Prod.mk.injEq,Bool.false_eq,decide_eq_false_iff_not];omega))
structure H where
  src:Int
  dst:Int
  words:Int
  ccval:Int
  cover:Int
  sum:Int
  kind:Int
  long:Bool
  seq:Int
  deriving DecidableEq
abbrev H.v (h:H):Value:=.agg #[.int .i64 h.src,.int .i64 h.dst,.int .i64 h.words,.int .i64 h.ccval,.int .i64 h.cover,.int .i64 h.sum,.int .i64 h.kind,.bool h.long,.int .i64 h.seq]
def wi (n m:Int):Bool:=decide (0≤n∧n≤m)
def most (long:Bool):Int:=if long=true then 281474976710656 else 16777216
def check (h:H):Int :=
  if known h.kind=false then 7 else if h.long=false∧brief h.kind=false then 4
  else if wi h.src 65535=false ∨ wi h.dst 65535=false ∨ wi h.sum 65535=false ∨ wi h.ccval 15=false ∨ wi h.cover 15=false then 3
  else if wi h.seq (most h.long - 1)=false ∨ wi h.words 255=false then 3
  else if 4 * h.words < size h.kind h.long then 1 else 0
def put (h:H):List UInt8 :=
  Oct.be (Oct.u64 h.src) 2++Oct.be (Oct.u64 h.dst) 2++Oct.be (Oct.u64 h.words) 1++Oct.be (Oct.u64 (16 * h.ccval+h.cover)) 1++Oct.be (Oct.u64 h.sum) 2 ++
    (if h.long=true then Oct.be (Oct.u64 (2 * h.kind+1)) 1++[0]++Oct.be (Oct.u64 h.seq) 6 else Oct.be (Oct.u64 (2 * h.kind)) 1++Oct.be (Oct.u64 h.seq) 3)
end Go.Proofs.YthacfgaacleaeaaGreatDoor.Head
namespace Go.Proofs.YthacfgaacleaeaaGreatDoor.Head
open Go.IntKind (i64 u32)
theorem wi_iff (n m:Int):wi n m=true ↔ 0≤n∧n≤m:=by unfold wi;simp
theorem check_ok {h:H} (hc:check h=0):(0≤h.kind∧h.kind≤9)∧(h.long=true ∨ brief h.kind=true)∧(0≤h.src∧h.src≤65535)∧(0≤h.dst∧h.dst≤65535)∧(0≤h.sum∧h.sum≤65535)∧(0≤h.ccval∧h.ccval≤15)∧(0≤h.cover∧h.cover≤15) ∧
    (0≤h.seq∧h.seq≤most h.long - 1)∧(0≤h.words∧h.words≤255)∧size h.kind h.long≤4 * h.words:=by
  unfold check at hc
  split at hc
  · omega
  · rename_i h1
    split at hc
    · omega
    · rename_i h2
      split at hc
      · omega
      · rename_i h3
        split at hc
        · omega
        · rename_i h4
          split at hc
          · omega
          · rename_i h5
            simp only [not_or,Bool.not_eq_false] at h1 h3 h4
            have h2':h.long=true ∨ brief h.kind=true:=by
              cases hl:h.long
              · cases hb:brief h.kind
                · exact absurd ⟨hl,hb⟩ h2
                · exact .inr rfl
              · exact .inl rfl
            have hk:0≤h.kind∧h.kind≤9:=by unfold known at h1;simpa using h1
            refine ⟨hk,h2',(wi_iff _ _).1 h3.1,(wi_iff _ _).1 h3.2.1,(wi_iff _ _).1 h3.2.2.1,(wi_iff _ _).1 h3.2.2.2.1,(wi_iff _ _).1 h3.2.2.2.2,(wi_iff _ _).1 h4.1,(wi_iff _ _).1 h4.2,by omega⟩
theorem i64_or_join (i:Nat) (a b:Nat) (hi:i≤40) (ha:a < 1048576) (hb:b < 2 ^ i):bits .or .i64 ((a * 2 ^ i:Nat):Int) (b:Int)=((a * 2 ^ i+b:Nat):Int):=by
  have hp:2 ^ i≤2 ^ 40:=Nat.pow_le_pow_right (by decide) hi
  have h2:a * 2 ^ i≤1048576 * 2 ^ 40:=Nat.mul_le_mul (by omega) hp
  have hj:a * 2 ^ i ||| b=a * 2 ^ i+b:=nat_join i _ _ (by simp) hb
  have e1:(BitVec.ofInt 64 ((a * 2 ^ i:Nat):Int)).toNat=a * 2 ^ i:=by
    rw [BitVec.ofInt_natCast,BitVec.toNat_ofNat];exact Nat.mod_eq_of_lt (by omega)
  have e2:(BitVec.ofInt 64 (b:Int)).toNat=b:=by
    rw [BitVec.ofInt_natCast,BitVec.toNat_ofNat];exact Nat.mod_eq_of_lt (by omega)
  show i64.wrap ((BitVec.ofInt 64 ((a * 2 ^ i:Nat):Int) ||| BitVec.ofInt 64 (b:Int)).toNat:Int)=_
  rw [BitVec.toNat_or,e1,e2,hj]
  exact IntWalk.i64_in _ (by omega)
theorem and15 (n:Int):bits .and .i64 n 15=n % 16:=by
  show i64.wrap ((BitVec.ofInt 64 n &&& BitVec.ofInt 64 15).toNat:Int)=_
  rw [BitVec.toNat_and,show (BitVec.ofInt 64 15).toNat=2 ^ 4 - 1 from by decide,Nat.and_two_pow_sub_one_eq_mod,BitVec.toNat_ofInt,IntKind.wrap_i64]
  omega
theorem and1 (n:Int):bits .and .i64 n 1=n % 2:=by
  show i64.wrap ((BitVec.ofInt 64 n &&& BitVec.ofInt 64 1).toNat:Int)=_
  rw [BitVec.toNat_and,show (BitVec.ofInt 64 1).toNat=2 ^ 1 - 1 from by decide,Nat.and_two_pow_sub_one_eq_mod,BitVec.toNat_ofInt,IntKind.wrap_i64]
  omega
theorem or_zero (a b:Nat) (ha:a < 1048576) (hb:b < 1048576):(bits .or .i64 (a:Int) (b:Int) != 0)=!(a == 0 && b == 0):=by
  have e1:(BitVec.ofInt 64 (a:Int)).toNat=a:=by
    rw [BitVec.ofInt_natCast,BitVec.toNat_ofNat];exact Nat.mod_eq_of_lt (by omega)
  have e2:(BitVec.ofInt 64 (b:Int)).toNat=b:=by
    rw [BitVec.ofInt_natCast,BitVec.toNat_ofNat];exact Nat.mod_eq_of_lt (by omega)
  have hlt:a ||| b < 2 ^ 20:=Nat.or_lt_two_pow (by omega) (by omega)
  have e3:bits .or .i64 (a:Int) (b:Int)=((a ||| b:Nat):Int):=by
    show i64.wrap ((BitVec.ofInt 64 (a:Int) ||| BitVec.ofInt 64 (b:Int)).toNat:Int)=_
    rw [BitVec.toNat_or,e1,e2]
    exact IntWalk.i64_in _ (by omega)
  rw [e3,Bool.eq_iff_iff]
  simp only [bne_iff_ne,ne_eq,Bool.not_eq_true',Bool.and_eq_false_iff,beq_eq_false_iff_ne]
  have:((a ||| b:Nat):Int)=0 ↔ a=0∧b=0:=by rw [← Nat.or_eq_zero_iff];omega
  rw [this]
  constructor
  · intro h
    by_cases h0:a=0
    · exact .inr fun h1=>h ⟨h0,h1⟩
    · exact .inl h0
  · rintro (h | h) ⟨h0,h1⟩
    · exact h h0
    · exact h h1
end Go.Proofs.YthacfgaacleaeaaGreatDoor.Head
namespace Go.Proofs.YthacfgaacleaeaaGreatDoor
open Go.IntKind (i64 u32)
open Go.RowKit
theorem head_tab (a b c d e:Bool) (k:Int) (h:(a,b,c,d,e)=Head.of5 k):Ending.returned (.agg #[.bool a,.bool b,.bool c,.bool d,.bool e])=Ending.returned (.agg #[.bool (Head.known k),.bool (Head.acks k),.bool (Head.bears k),.bool (Head.more k),.bool (Head.brief k)]):=by
  rw [Head.of5_eq] at h
  simp only [Prod.mk.injEq] at h
  rw [h.1,h.2.1,h.2.2.1,h.2.2.2.1,h.2.2.2.2]
set_option maxHeartbeats 1000000 in
set_option maxRecDepth 100000 in
theorem head_of (k:Int) (w:World):Calls Tryz.prog 154 #[.int .i64 k] w fun e w'=>e = .returned (.agg #[.bool (Head.known k),.bool (Head.acks k),.bool (Head.bears k),.bool (Head.more k),.bool (Head.brief k)])∧Below w.heap.size w w':=by
  go_enter Tryz.func154,Tryz.ntmps154
  go_wp2
  all_goals (go_returns;go_light)
  all_goals refine ⟨?_,by (repeat' (first | (with_reducible exact Below.refl _ _) | (with_reducible refine below_alloc ?_ _) | (with_reducible refine Below.drew ?_) | (with_reducible refine below_drewN ?_ _) | (with_reducible refine Below.setCell ?_ ?_ _) | (with_reducible assumption) | (with_reducible refine below_of ?_ (by assumption)) | omega | (simp only [World.size_alloc,World.size_setCell,World.size_drew,size_drewN] at *;omega) | (simp;omega)))⟩
  all_goals refine head_tab _ _ _ _ _ k ?_
  all_goals simp only [Head.of5, *,↓reduceIte,Bool.false_eq_true]
end Go.Proofs.YthacfgaacleaeaaGreatDoor
namespace Go.Proofs.YthacfgaacleaeaaGreatDoor
open Go.IntKind (i64 u32)
open Go.RowKit
theorem field_traits (a b c d e:Bool) (w:World):(Instr.field 245 (.agg #[.bool a,.bool b,.bool c,.bool d,.bool e]) 1).run Tryz.prog w = .ok (.bool b) w∧(Instr.field 245 (.agg #[.bool a,.bool b,.bool c,.bool d,.bool e]) 2).run Tryz.prog w = .ok (.bool c) w :=
  ⟨by kernel_rfl,by kernel_rfl⟩
theorem head_acks (k:Int) (w:World):Calls Tryz.prog 112 #[.int .i64 k] w fun e w'=>e = .returned (.bool (Head.acks k))∧Below w.heap.size w w':=by
  have F:=fun a b c d e w=>(field_traits a b c d e w).1
  go_enter Tryz.func112,Tryz.ntmps112
  go_wp2_with (go_at_call 154;refine (head_of _ _).mono ?_;rintro e w1 ⟨rfl,hb⟩;have hz:=hb.size;(try simp only [World.size_alloc,World.size_setCell,World.size_drew,size_drewN] at hz))
  go_returns
  exact ⟨rfl,hb⟩
theorem head_bears (k:Int) (w:World):Calls Tryz.prog 131 #[.int .i64 k] w fun e w'=>e = .returned (.bool (Head.bears k))∧Below w.heap.size w w':=by
  have F:=fun a b c d e w=>(field_traits a b c d e w).2
  go_enter Tryz.func131,Tryz.ntmps131
  go_wp2_with (go_at_call 154;refine (head_of _ _).mono ?_;rintro e w1 ⟨rfl,hb⟩;have hz:=hb.size;(try simp only [World.size_alloc,World.size_setCell,World.size_drew,size_drewN] at hz))
  go_returns
  exact ⟨rfl,hb⟩
theorem head_within (n m:Int) (w:World):Calls Tryz.prog 155 #[.int .i64 n,.int .i64 m] w fun e w'=>e = .returned (.bool (Head.wi n m))∧w=w':=by
  by_cases h1:0≤n
  · have e1:decide (0≤n)=true:=by simpa using h1
    go_enter Tryz.func155,Tryz.ntmps155
    go_wp2
    go_ret
    exact ⟨ret_b (by simp [Head.wi,h1]),rfl⟩
  · have e1:decide (0≤n)=false:=by simpa using h1
    go_enter Tryz.func155,Tryz.ntmps155
    go_wp2
    go_ret
    exact ⟨ret_b (by simp [Head.wi];omega),rfl⟩
theorem head_pick (b:Bool) (x y:Int) (w:World):Calls Tryz.prog 156 #[.bool b,.int .i64 x,.int .i64 y] w fun e w'=>e = .returned (.int .i64 (if b=true then x else y))∧w=w':=by
  cases b
  · go_enter Tryz.func156,Tryz.ntmps156
    go_wp2
    go_ret
    exact ⟨rfl,rfl⟩
  · go_enter Tryz.func156,Tryz.ntmps156
    go_wp2
    go_ret
    exact ⟨rfl,rfl⟩
theorem head_size (k:Int) (long:Bool) (w:World):Calls Tryz.prog 106 #[.int .i64 k,.bool long] w fun e w'=>e = .returned (.int .i64 (Head.size k long))∧Below w.heap.size w w':=by
  have HS:Hid (∀ r,(if Head.known k=false ∨ (long=false∧Head.brief k=false) then 0 else (if long then 16 else 12)+(if Head.acks k then (if long then 8 else 4) else 0)+(if Head.more k then 4 else 0))=r→Head.size k long=r):=fun r h=>h
  generalize Head.size k long=r at *
  go_enter Tryz.func106,Tryz.ntmps106
  go_wp2_with fail
  refine (head_of _ _).mono ?_
  generalize Head.known k=a at *
  generalize Head.acks k=b at *
  generalize Head.bears k=c at *
  generalize Head.more k=d at *
  generalize Head.brief k=e at *
  rintro e' w1 ⟨rfl,hb⟩
  have hz:=hb.size
  cases a
  · go_wp2
    all_goals (go_returns;go_light)
    all_goals exact ⟨ret_i (by rw [HS.out 0 (by simp)]),by (repeat' (first | (with_reducible exact Below.refl _ _) | (with_reducible refine below_alloc ?_ _) | (with_reducible refine Below.drew ?_) | (with_reducible refine below_drewN ?_ _) | (with_reducible refine Below.setCell ?_ ?_ _) | (with_reducible assumption) | (with_reducible refine below_of ?_ (by assumption)) | omega | (simp only [World.size_alloc,World.size_setCell,World.size_drew,size_drewN] at *;omega) | (simp;omega)))⟩
  · cases long
    · cases e
      · go_wp2
        all_goals (go_returns;go_light)
        all_goals exact ⟨ret_i (by rw [HS.out 0 (by simp)]),by (repeat' (first | (with_reducible exact Below.refl _ _) | (with_reducible refine below_alloc ?_ _) | (with_reducible refine Below.drew ?_) | (with_reducible refine below_drewN ?_ _) | (with_reducible refine Below.setCell ?_ ?_ _) | (with_reducible assumption) | (with_reducible refine below_of ?_ (by assumption)) | omega | (simp only [World.size_alloc,World.size_setCell,World.size_drew,size_drewN] at *;omega) | (simp;omega)))⟩
      · go_wp2_with (go_at_call 156;refine (head_pick _ _ _ _).mono ?_;rintro e w1 ⟨rfl,rfl⟩)
        all_goals (go_returns;go_light)
        all_goals exact ⟨ret_i (by rw [HS.out _ (by simp [*];rfl)]),by (repeat' (first | (with_reducible exact Below.refl _ _) | (with_reducible refine below_alloc ?_ _) | (with_reducible refine Below.drew ?_) | (with_reducible refine below_drewN ?_ _) | (with_reducible refine Below.setCell ?_ ?_ _) | (with_reducible assumption) | (with_reducible refine below_of ?_ (by assumption)) | omega | (simp only [World.size_alloc,World.size_setCell,World.size_drew,size_drewN] at *;omega) | (simp;omega)))⟩
    · go_wp2_with (go_at_call 156;refine (head_pick _ _ _ _).mono ?_;rintro e w1 ⟨rfl,rfl⟩)
      all_goals (go_returns;go_light)
      all_goals exact ⟨ret_i (by rw [HS.out _ (by simp [*];rfl)]),by (repeat' (first | (with_reducible exact Below.refl _ _) | (with_reducible refine below_alloc ?_ _) | (with_reducible refine Below.drew ?_) | (with_reducible refine below_drewN ?_ _) | (with_reducible refine Below.setCell ?_ ?_ _) | (with_reducible assumption) | (with_reducible refine below_of ?_ (by assumption)) | omega | (simp only [World.size_alloc,World.size_setCell,World.size_drew,size_drewN] at *;omega) | (simp;omega)))⟩
end Go.Proofs.YthacfgaacleaeaaGreatDoor
namespace Go.Proofs.YthacfgaacleaeaaGreatDoor
open Go.IntKind (i64 u32)
open Go.RowKit
set_option maxRecDepth 100000 in
set_option maxHeartbeats 4000000 in
theorem head_check_long (src dst words ccval cover sum kind seq:Int) (w:World) (hk:Head.known kind=true) :
    Calls Tryz.prog 103 #[(⟨src,dst,words,ccval,cover,sum,kind,true,seq⟩:Head.H).v] w fun e w'=>e = .returned (.int .i64 (Head.check ⟨src,dst,words,ccval,cover,sum,kind,true,seq⟩))∧Below w.heap.size w w':=by
  have hcheck:Head.check ⟨src,dst,words,ccval,cover,sum,kind,true,seq⟩=if Head.wi src 65535=false then 3 else if Head.wi dst 65535=false then 3 else if Head.wi sum 65535=false then 3 else if Head.wi ccval 15=false then 3 else if Head.wi cover 15=false then 3
      else if Head.wi seq 281474976710655=false then 3 else if Head.wi words 255=false then 3 else if 4 * words < Head.size kind true then 1 else 0:=by
    unfold Head.check
    simp only [hk,Bool.true_eq_false,Bool.false_eq_true,false_and,and_false,if_false,Head.most,if_true]
    cases Head.wi src 65535 <;> cases Head.wi dst 65535 <;> cases Head.wi sum 65535 <;> cases Head.wi ccval 15 <;> cases Head.wi cover 15 <;> simp
    cases Head.wi words 255 <;> simp
  rw [hcheck]
  clear hcheck
  have HK:=Lib.hid hk
  have hw:Head.wi words 255=true→0≤words∧words≤255:=by unfold Head.wi;simp only [decide_eq_true_eq];exact id
  have HW:=Lib.hid hw
  clear hk hw
  generalize hw1:Head.wi src 65535=b1
  generalize hw2:Head.wi dst 65535=b2
  generalize hw3:Head.wi sum 65535=b3
  generalize hw4:Head.wi ccval 15=b4
  generalize hw5:Head.wi cover 15=b5
  generalize hw6:Head.wi seq 281474976710655=b6
  generalize hw7:Head.wi words 255=b7 at HW
  generalize hsz:Head.size kind true=n
  have H1:=Lib.hid hw1
  have H2:=Lib.hid hw2
  have H3:=Lib.hid hw3
  have H4:=Lib.hid hw4
  have H5:=Lib.hid hw5
  have H6:=Lib.hid hw6
  have H7:=Lib.hid hw7
  have H8:=Lib.hid hsz
  clear hw1 hw2 hw3 hw4 hw5 hw6 hw7 hsz
  go_enter Tryz.func103,Tryz.ntmps103
  go_wp2_with fail
  refine (head_of _ _).mono ?_
  rw [HK.out]
  rintro e w1 ⟨rfl,hb⟩;have hz:=hb.size;(try simp only [World.size_alloc,World.size_setCell,World.size_drew,size_drewN] at hz);apply own_step (B:=w.heap.size) hb;(focus (repeat (first | (with_reducible assumption) | (with_reducible exact own_new _ _ _) | ((with_reducible apply own_new');focus (first | omega | (simp;done) | (simp;omega))) | (with_reducible apply own_drewN) | (with_reducible apply own_drew) | (with_reducible apply own_alloc) | (with_reducible apply own_setT) | ((with_reducible apply own_set_otherH);focus (first | (simp;done) | (simp;omega))))));intro hO0;have hk0:=hO0.2.1;have hl0:=hO0.1;have hf0:=hO0.2.2;(try simp only [List.setIfInBounds_toArray,List.set_cons_zero,List.set_cons_succ] at hO0 hk0)
  cases b1
  · go_wp2_with (go_at_call 155;refine (head_within _ _ _).mono ?_;(first | rw [H1.out] | rw [H2.out] | rw [H3.out] | rw [H4.out] | rw [H5.out] | rw [H6.out] | rw [H7.out]);rintro e w1 ⟨rfl,rfl⟩)
    go_returns
    exact ⟨rfl,by (repeat' (first | (with_reducible exact Below.refl _ _) | (with_reducible refine below_alloc ?_ _) | (with_reducible refine Below.drew ?_) | (with_reducible refine below_drewN ?_ _) | (with_reducible refine Below.setCell ?_ ?_ _) | (with_reducible assumption) | (with_reducible refine below_of ?_ (by assumption)) | omega | (simp only [World.size_alloc,World.size_setCell,World.size_drew,size_drewN] at *;omega) | (simp;omega)))⟩
  · skip
    cases b2
    · go_wp2_with (go_at_call 155;refine (head_within _ _ _).mono ?_;(first | rw [H1.out] | rw [H2.out] | rw [H3.out] | rw [H4.out] | rw [H5.out] | rw [H6.out] | rw [H7.out]);rintro e w1 ⟨rfl,rfl⟩)
      go_returns
      exact ⟨rfl,by (repeat' (first | (with_reducible exact Below.refl _ _) | (with_reducible refine below_alloc ?_ _) | (with_reducible refine Below.drew ?_) | (with_reducible refine below_drewN ?_ _) | (with_reducible refine Below.setCell ?_ ?_ _) | (with_reducible assumption) | (with_reducible refine below_of ?_ (by assumption)) | omega | (simp only [World.size_alloc,World.size_setCell,World.size_drew,size_drewN] at *;omega) | (simp;omega)))⟩
    · skip
      cases b3
      · go_wp2_with (go_at_call 155;refine (head_within _ _ _).mono ?_;(first | rw [H1.out] | rw [H2.out] | rw [H3.out] | rw [H4.out] | rw [H5.out] | rw [H6.out] | rw [H7.out]);rintro e w1 ⟨rfl,rfl⟩)
        go_returns
        exact ⟨rfl,by (repeat' (first | (with_reducible exact Below.refl _ _) | (with_reducible refine below_alloc ?_ _) | (with_reducible refine Below.drew ?_) | (with_reducible refine below_drewN ?_ _) | (with_reducible refine Below.setCell ?_ ?_ _) | (with_reducible assumption) | (with_reducible refine below_of ?_ (by assumption)) | omega | (simp only [World.size_alloc,World.size_setCell,World.size_drew,size_drewN] at *;omega) | (simp;omega)))⟩
      · skip
        cases b4
        · go_wp2_with (go_at_call 155;refine (head_within _ _ _).mono ?_;(first | rw [H1.out] | rw [H2.out] | rw [H3.out] | rw [H4.out] | rw [H5.out] | rw [H6.out] | rw [H7.out]);rintro e w1 ⟨rfl,rfl⟩)
          go_returns
          exact ⟨rfl,by (repeat' (first | (with_reducible exact Below.refl _ _) | (with_reducible refine below_alloc ?_ _) | (with_reducible refine Below.drew ?_) | (with_reducible refine below_drewN ?_ _) | (with_reducible refine Below.setCell ?_ ?_ _) | (with_reducible assumption) | (with_reducible refine below_of ?_ (by assumption)) | omega | (simp only [World.size_alloc,World.size_setCell,World.size_drew,size_drewN] at *;omega) | (simp;omega)))⟩
        · skip
          cases b5
          · go_wp2_with (go_at_call 155;refine (head_within _ _ _).mono ?_;(first | rw [H1.out] | rw [H2.out] | rw [H3.out] | rw [H4.out] | rw [H5.out] | rw [H6.out] | rw [H7.out]);rintro e w1 ⟨rfl,rfl⟩)
            go_returns
            exact ⟨rfl,by (repeat' (first | (with_reducible exact Below.refl _ _) | (with_reducible refine below_alloc ?_ _) | (with_reducible refine Below.drew ?_) | (with_reducible refine below_drewN ?_ _) | (with_reducible refine Below.setCell ?_ ?_ _) | (with_reducible assumption) | (with_reducible refine below_of ?_ (by assumption)) | omega | (simp only [World.size_alloc,World.size_setCell,World.size_drew,size_drewN] at *;omega) | (simp;omega)))⟩
          · skip
            have h6:=H6.out
            go_wp2_with (go_at_call 155;refine (head_within _ _ _).mono ?_;(first | rw [H1.out] | rw [H2.out] | rw [H3.out] | rw [H4.out] | rw [H5.out] | rw [H6.out] | rw [H7.out]);rintro e w1 ⟨rfl,rfl⟩)
            cases b6
            · go_quiet (first | (go_at_call 156;first | exact quiet_left (head_pick _ _ _ _) | exact quiet_add_left (head_pick _ _ _ _)) | (go_at_call 155;first | exact quiet_left (head_within _ _ _) | exact quiet_add_left (head_within _ _ _)))
              go_wp2
              go_returns
              exact ⟨rfl,by (repeat' (first | (with_reducible exact Below.refl _ _) | (with_reducible refine below_alloc ?_ _) | (with_reducible refine Below.drew ?_) | (with_reducible refine below_drewN ?_ _) | (with_reducible refine Below.setCell ?_ ?_ _) | (with_reducible assumption) | (with_reducible refine below_of ?_ (by assumption)) | omega | (simp only [World.size_alloc,World.size_setCell,World.size_drew,size_drewN] at *;omega) | (simp;omega)))⟩
            · go_quiet (first | (go_at_call 156;first | exact quiet_left (head_pick _ _ _ _) | exact quiet_add_left (head_pick _ _ _ _)) | (go_at_call 155;first | exact quiet_left (head_within _ _ _) | exact quiet_add_left (head_within _ _ _)))
              clear h6
              go_wp2_with fail
              refine (head_within _ _ _).mono ?_
              rw [H7.out]
              rintro e w1 ⟨rfl,rfl⟩
              cases b7
              · go_wp2
                go_returns
                exact ⟨rfl,by (repeat' (first | (with_reducible exact Below.refl _ _) | (with_reducible refine below_alloc ?_ _) | (with_reducible refine Below.drew ?_) | (with_reducible refine below_drewN ?_ _) | (with_reducible refine Below.setCell ?_ ?_ _) | (with_reducible assumption) | (with_reducible refine below_of ?_ (by assumption)) | omega | (simp only [World.size_alloc,World.size_setCell,World.size_drew,size_drewN] at *;omega) | (simp;omega)))⟩
              · obtain ⟨hw0,hw1⟩:=HW.out rfl
                have hwr:i64.wrap (4 * words)=4 * words:=IntWalk.i64_in _ (by omega)
                by_cases hlt:4 * words < n
                · have hd:decide (4 * words < n)=true:=by simpa using hlt
                  go_wp2_with fail
                  go_region_held3 (fun w'=>w'.cell? ⟨w.heap.size,2,none⟩=some (.int .i64 words)∧w'.cell? ⟨w.heap.size,6,none⟩=some (.int .i64 kind)∧w'.cell? ⟨w.heap.size,7,none⟩=some (.bool true)) (go_keep) (first | (go_at_call 106;refine (head_size _ _ _).mono ?_;rw [H8.out];rintro e w3 ⟨rfl,hb⟩;have hz:=hb.size;(try simp only [World.size_alloc,World.size_setCell,World.size_drew,size_drewN] at hz);apply own_step (B:=w.heap.size) hb;(focus (repeat (first | (with_reducible assumption) | (with_reducible exact own_new _ _ _) | ((with_reducible apply own_new');focus (first | omega | (simp;done) | (simp;omega))) | (with_reducible apply own_drewN) | (with_reducible apply own_drew) | (with_reducible apply own_alloc) | (with_reducible apply own_setT) | ((with_reducible apply own_set_otherH);focus (first | (simp;done) | (simp;omega))))));intro hO0;have hk0:=hO0.2.1;have hl0:=hO0.1;have hf0:=hO0.2.2;(try simp only [List.setIfInBounds_toArray,List.set_cons_zero,List.set_cons_succ] at hO0 hk0)))
                  go_wp2
                  go_returns
                  exact ⟨ret_i (by simp [hlt]),by (repeat' (first | (with_reducible exact Below.refl _ _) | (with_reducible refine below_alloc ?_ _) | (with_reducible refine Below.drew ?_) | (with_reducible refine below_drewN ?_ _) | (with_reducible refine Below.setCell ?_ ?_ _) | (with_reducible assumption) | (with_reducible refine below_of ?_ (by assumption)) | omega | (simp only [World.size_alloc,World.size_setCell,World.size_drew,size_drewN] at *;omega) | (simp;omega)))⟩
                · have hd:decide (4 * words < n)=false:=by simpa using hlt
                  go_wp2_with fail
                  go_region_held3 (fun w'=>w'.cell? ⟨w.heap.size,2,none⟩=some (.int .i64 words)∧w'.cell? ⟨w.heap.size,6,none⟩=some (.int .i64 kind)∧w'.cell? ⟨w.heap.size,7,none⟩=some (.bool true)) (go_keep) (first | (go_at_call 106;refine (head_size _ _ _).mono ?_;rw [H8.out];rintro e w3 ⟨rfl,hb⟩;have hz:=hb.size;(try simp only [World.size_alloc,World.size_setCell,World.size_drew,size_drewN] at hz);apply own_step (B:=w.heap.size) hb;(focus (repeat (first | (with_reducible assumption) | (with_reducible exact own_new _ _ _) | ((with_reducible apply own_new');focus (first | omega | (simp;done) | (simp;omega))) | (with_reducible apply own_drewN) | (with_reducible apply own_drew) | (with_reducible apply own_alloc) | (with_reducible apply own_setT) | ((with_reducible apply own_set_otherH);focus (first | (simp;done) | (simp;omega))))));intro hO0;have hk0:=hO0.2.1;have hl0:=hO0.1;have hf0:=hO0.2.2;(try simp only [List.setIfInBounds_toArray,List.set_cons_zero,List.set_cons_succ] at hO0 hk0)))
                  go_wp2
                  go_returns
                  exact ⟨ret_i (by simp [hlt]),by (repeat' (first | (with_reducible exact Below.refl _ _) | (with_reducible refine below_alloc ?_ _) | (with_reducible refine Below.drew ?_) | (with_reducible refine below_drewN ?_ _) | (with_reducible refine Below.setCell ?_ ?_ _) | (with_reducible assumption) | (with_reducible refine below_of ?_ (by assumption)) | omega | (simp only [World.size_alloc,World.size_setCell,World.size_drew,size_drewN] at *;omega) | (simp;omega)))⟩
set_option maxRecDepth 100000 in
set_option maxHeartbeats 4000000 in
theorem head_check_short (src dst words ccval cover sum kind seq:Int) (w:World) (hk:Head.known kind=true) (hbr:Head.brief kind=true) :
    Calls Tryz.prog 103 #[(⟨src,dst,words,ccval,cover,sum,kind,false,seq⟩:Head.H).v] w fun e w'=>e = .returned (.int .i64 (Head.check ⟨src,dst,words,ccval,cover,sum,kind,false,seq⟩))∧Below w.heap.size w w':=by
  have hcheck:Head.check ⟨src,dst,words,ccval,cover,sum,kind,false,seq⟩=if Head.wi src 65535=false then 3 else if Head.wi dst 65535=false then 3 else if Head.wi sum 65535=false then 3 else if Head.wi ccval 15=false then 3 else if Head.wi cover 15=false then 3
      else if Head.wi seq 16777215=false then 3 else if Head.wi words 255=false then 3 else if 4 * words < Head.size kind false then 1 else 0:=by
    unfold Head.check
    simp only [hk,hbr,Bool.true_eq_false,Bool.false_eq_true,false_and,and_false,if_false,Head.most,if_true]
    cases Head.wi src 65535 <;> cases Head.wi dst 65535 <;> cases Head.wi sum 65535 <;> cases Head.wi ccval 15 <;> cases Head.wi cover 15 <;> simp
    cases Head.wi words 255 <;> simp
  rw [hcheck]
  clear hcheck
  have HK:=Lib.hid hk
  have HB:=Lib.hid hbr
  clear hbr
  have hw:Head.wi words 255=true→0≤words∧words≤255:=by unfold Head.wi;simp only [decide_eq_true_eq];exact id
  have HW:=Lib.hid hw
  clear hk hw
  generalize hw1:Head.wi src 65535=b1
  generalize hw2:Head.wi dst 65535=b2
  generalize hw3:Head.wi sum 65535=b3
  generalize hw4:Head.wi ccval 15=b4
  generalize hw5:Head.wi cover 15=b5
  generalize hw6:Head.wi seq 16777215=b6
  generalize hw7:Head.wi words 255=b7 at HW
  generalize hsz:Head.size kind false=n
  have H1:=Lib.hid hw1
  have H2:=Lib.hid hw2
  have H3:=Lib.hid hw3
  have H4:=Lib.hid hw4
  have H5:=Lib.hid hw5
  have H6:=Lib.hid hw6
  have H7:=Lib.hid hw7
  have H8:=Lib.hid hsz
  clear hw1 hw2 hw3 hw4 hw5 hw6 hw7 hsz
  go_enter Tryz.func103,Tryz.ntmps103
  go_wp2_with fail
  refine (head_of _ _).mono ?_
  rw [HK.out,HB.out]
  rintro e w1 ⟨rfl,hb⟩;have hz:=hb.size;(try simp only [World.size_alloc,World.size_setCell,World.size_drew,size_drewN] at hz);apply own_step (B:=w.heap.size) hb;(focus (repeat (first | (with_reducible assumption) | (with_reducible exact own_new _ _ _) | ((with_reducible apply own_new');focus (first | omega | (simp;done) | (simp;omega))) | (with_reducible apply own_drewN) | (with_reducible apply own_drew) | (with_reducible apply own_alloc) | (with_reducible apply own_setT) | ((with_reducible apply own_set_otherH);focus (first | (simp;done) | (simp;omega))))));intro hO0;have hk0:=hO0.2.1;have hl0:=hO0.1;have hf0:=hO0.2.2;(try simp only [List.setIfInBounds_toArray,List.set_cons_zero,List.set_cons_succ] at hO0 hk0)
  cases b1
  · go_wp2_with (go_at_call 155;refine (head_within _ _ _).mono ?_;(first | rw [H1.out] | rw [H2.out] | rw [H3.out] | rw [H4.out] | rw [H5.out] | rw [H6.out] | rw [H7.out]);rintro e w1 ⟨rfl,rfl⟩)
    go_returns
    exact ⟨rfl,by (repeat' (first | (with_reducible exact Below.refl _ _) | (with_reducible refine below_alloc ?_ _) | (with_reducible refine Below.drew ?_) | (with_reducible refine below_drewN ?_ _) | (with_reducible refine Below.setCell ?_ ?_ _) | (with_reducible assumption) | (with_reducible refine below_of ?_ (by assumption)) | omega | (simp only [World.size_alloc,World.size_setCell,World.size_drew,size_drewN] at *;omega) | (simp;omega)))⟩
  · skip
    cases b2
    · go_wp2_with (go_at_call 155;refine (head_within _ _ _).mono ?_;(first | rw [H1.out] | rw [H2.out] | rw [H3.out] | rw [H4.out] | rw [H5.out] | rw [H6.out] | rw [H7.out]);rintro e w1 ⟨rfl,rfl⟩)
      go_returns
      exact ⟨rfl,by (repeat' (first | (with_reducible exact Below.refl _ _) | (with_reducible refine below_alloc ?_ _) | (with_reducible refine Below.drew ?_) | (with_reducible refine below_drewN ?_ _) | (with_reducible refine Below.setCell ?_ ?_ _) | (with_reducible assumption) | (with_reducible refine below_of ?_ (by assumption)) | omega | (simp only [World.size_alloc,World.size_setCell,World.size_drew,size_drewN] at *;omega) | (simp;omega)))⟩
    · skip
      cases b3
      · go_wp2_with (go_at_call 155;refine (head_within _ _ _).mono ?_;(first | rw [H1.out] | rw [H2.out] | rw [H3.out] | rw [H4.out] | rw [H5.out] | rw [H6.out] | rw [H7.out]);rintro e w1 ⟨rfl,rfl⟩)
        go_returns
        exact ⟨rfl,by (repeat' (first | (with_reducible exact Below.refl _ _) | (with_reducible refine below_alloc ?_ _) | (with_reducible refine Below.drew ?_) | (with_reducible refine below_drewN ?_ _) | (with_reducible refine Below.setCell ?_ ?_ _) | (with_reducible assumption) | (with_reducible refine below_of ?_ (by assumption)) | omega | (simp only [World.size_alloc,World.size_setCell,World.size_drew,size_drewN] at *;omega) | (simp;omega)))⟩
      · skip
        cases b4
        · go_wp2_with (go_at_call 155;refine (head_within _ _ _).mono ?_;(first | rw [H1.out] | rw [H2.out] | rw [H3.out] | rw [H4.out] | rw [H5.out] | rw [H6.out] | rw [H7.out]);rintro e w1 ⟨rfl,rfl⟩)
          go_returns
          exact ⟨rfl,by (repeat' (first | (with_reducible exact Below.refl _ _) | (with_reducible refine below_alloc ?_ _) | (with_reducible refine Below.drew ?_) | (with_reducible refine below_drewN ?_ _) | (with_reducible refine Below.setCell ?_ ?_ _) | (with_reducible assumption) | (with_reducible refine below_of ?_ (by assumption)) | omega | (simp only [World.size_alloc,World.size_setCell,World.size_drew,size_drewN] at *;omega) | (simp;omega)))⟩
        · skip
          cases b5
          · go_wp2_with (go_at_call 155;refine (head_within _ _ _).mono ?_;(first | rw [H1.out] | rw [H2.out] | rw [H3.out] | rw [H4.out] | rw [H5.out] | rw [H6.out] | rw [H7.out]);rintro e w1 ⟨rfl,rfl⟩)
            go_returns
            exact ⟨rfl,by (repeat' (first | (with_reducible exact Below.refl _ _) | (with_reducible refine below_alloc ?_ _) | (with_reducible refine Below.drew ?_) | (with_reducible refine below_drewN ?_ _) | (with_reducible refine Below.setCell ?_ ?_ _) | (with_reducible assumption) | (with_reducible refine below_of ?_ (by assumption)) | omega | (simp only [World.size_alloc,World.size_setCell,World.size_drew,size_drewN] at *;omega) | (simp;omega)))⟩
          · skip
            have h6:=H6.out
            go_wp2_with (go_at_call 155;refine (head_within _ _ _).mono ?_;(first | rw [H1.out] | rw [H2.out] | rw [H3.out] | rw [H4.out] | rw [H5.out] | rw [H6.out] | rw [H7.out]);rintro e w1 ⟨rfl,rfl⟩)
            cases b6
            · go_quiet (first | (go_at_call 156;first | exact quiet_left (head_pick _ _ _ _) | exact quiet_add_left (head_pick _ _ _ _)) | (go_at_call 155;first | exact quiet_left (head_within _ _ _) | exact quiet_add_left (head_within _ _ _)))
              go_wp2
              go_returns
              exact ⟨rfl,by (repeat' (first | (with_reducible exact Below.refl _ _) | (with_reducible refine below_alloc ?_ _) | (with_reducible refine Below.drew ?_) | (with_reducible refine below_drewN ?_ _) | (with_reducible refine Below.setCell ?_ ?_ _) | (with_reducible assumption) | (with_reducible refine below_of ?_ (by assumption)) | omega | (simp only [World.size_alloc,World.size_setCell,World.size_drew,size_drewN] at *;omega) | (simp;omega)))⟩
            · go_quiet (first | (go_at_call 156;first | exact quiet_left (head_pick _ _ _ _) | exact quiet_add_left (head_pick _ _ _ _)) | (go_at_call 155;first | exact quiet_left (head_within _ _ _) | exact quiet_add_left (head_within _ _ _)))
              clear h6
              go_wp2_with fail
              refine (head_within _ _ _).mono ?_
              rw [H7.out]
              rintro e w1 ⟨rfl,rfl⟩
              cases b7
              · go_wp2
                go_returns
                exact ⟨rfl,by (repeat' (first | (with_reducible exact Below.refl _ _) | (with_reducible refine below_alloc ?_ _) | (with_reducible refine Below.drew ?_) | (with_reducible refine below_drewN ?_ _) | (with_reducible refine Below.setCell ?_ ?_ _) | (with_reducible assumption) | (with_reducible refine below_of ?_ (by assumption)) | omega | (simp only [World.size_alloc,World.size_setCell,World.size_drew,size_drewN] at *;omega) | (simp;omega)))⟩
              · obtain ⟨hw0,hw1⟩:=HW.out rfl
                have hwr:i64.wrap (4 * words)=4 * words:=IntWalk.i64_in _ (by omega)
                by_cases hlt:4 * words < n
                · have hd:decide (4 * words < n)=true:=by simpa using hlt
                  go_wp2_with fail
                  go_region_held3 (fun w'=>w'.cell? ⟨w.heap.size,2,none⟩=some (.int .i64 words)∧w'.cell? ⟨w.heap.size,6,none⟩=some (.int .i64 kind)∧w'.cell? ⟨w.heap.size,7,none⟩=some (.bool false)) (go_keep) (first | (go_at_call 106;refine (head_size _ _ _).mono ?_;rw [H8.out];rintro e w3 ⟨rfl,hb⟩;have hz:=hb.size;(try simp only [World.size_alloc,World.size_setCell,World.size_drew,size_drewN] at hz);apply own_step (B:=w.heap.size) hb;(focus (repeat (first | (with_reducible assumption) | (with_reducible exact own_new _ _ _) | ((with_reducible apply own_new');focus (first | omega | (simp;done) | (simp;omega))) | (with_reducible apply own_drewN) | (with_reducible apply own_drew) | (with_reducible apply own_alloc) | (with_reducible apply own_setT) | ((with_reducible apply own_set_otherH);focus (first | (simp;done) | (simp;omega))))));intro hO0;have hk0:=hO0.2.1;have hl0:=hO0.1;have hf0:=hO0.2.2;(try simp only [List.setIfInBounds_toArray,List.set_cons_zero,List.set_cons_succ] at hO0 hk0)))
                  go_wp2
                  go_returns
                  exact ⟨ret_i (by simp [hlt]),by (repeat' (first | (with_reducible exact Below.refl _ _) | (with_reducible refine below_alloc ?_ _) | (with_reducible refine Below.drew ?_) | (with_reducible refine below_drewN ?_ _) | (with_reducible refine Below.setCell ?_ ?_ _) | (with_reducible assumption) | (with_reducible refine below_of ?_ (by assumption)) | omega | (simp only [World.size_alloc,World.size_setCell,World.size_drew,size_drewN] at *;omega) | (simp;omega)))⟩
                · have hd:decide (4 * words < n)=false:=by simpa using hlt
                  go_wp2_with fail
                  go_region_held3 (fun w'=>w'.cell? ⟨w.heap.size,2,none⟩=some (.int .i64 words)∧w'.cell? ⟨w.heap.size,6,none⟩=some (.int .i64 kind)∧w'.cell? ⟨w.heap.size,7,none⟩=some (.bool false)) (go_keep) (first | (go_at_call 106;refine (head_size _ _ _).mono ?_;rw [H8.out];rintro e w3 ⟨rfl,hb⟩;have hz:=hb.size;(try simp only [World.size_alloc,World.size_setCell,World.size_drew,size_drewN] at hz);apply own_step (B:=w.heap.size) hb;(focus (repeat (first | (with_reducible assumption) | (with_reducible exact own_new _ _ _) | ((with_reducible apply own_new');focus (first | omega | (simp;done) | (simp;omega))) | (with_reducible apply own_drewN) | (with_reducible apply own_drew) | (with_reducible apply own_alloc) | (with_reducible apply own_setT) | ((with_reducible apply own_set_otherH);focus (first | (simp;done) | (simp;omega))))));intro hO0;have hk0:=hO0.2.1;have hl0:=hO0.1;have hf0:=hO0.2.2;(try simp only [List.setIfInBounds_toArray,List.set_cons_zero,List.set_cons_succ] at hO0 hk0)))
                  go_wp2
                  go_returns
                  exact ⟨ret_i (by simp [hlt]),by (repeat' (first | (with_reducible exact Below.refl _ _) | (with_reducible refine below_alloc ?_ _) | (with_reducible refine Below.drew ?_) | (with_reducible refine below_drewN ?_ _) | (with_reducible refine Below.setCell ?_ ?_ _) | (with_reducible assumption) | (with_reducible refine below_of ?_ (by assumption)) | omega | (simp only [World.size_alloc,World.size_setCell,World.size_drew,size_drewN] at *;omega) | (simp;omega)))⟩
set_option maxRecDepth 100000 in
set_option maxHeartbeats 1000000 in
theorem head_check (h:Head.H) (w:World):Calls Tryz.prog 103 #[h.v] w fun e w'=>e = .returned (.int .i64 (Head.check h))∧Below w.heap.size w w':=by
  obtain ⟨src,dst,words,ccval,cover,sum,kind,long,seq⟩:=h
  by_cases hk:Head.known kind=true
  · cases long
    · by_cases hbr:Head.brief kind=true
      · exact head_check_short src dst words ccval cover sum kind seq w hk hbr
      · rw [Bool.not_eq_true] at hbr
        have hcheck:Head.check ⟨src,dst,words,ccval,cover,sum,kind,false,seq⟩=4:=by simp [Head.check,hk,hbr]
        rw [hcheck]
        have HK:=Lib.hid hk
        have HB:=Lib.hid hbr
        clear hk hbr hcheck
        go_enter Tryz.func103,Tryz.ntmps103
        go_wp2_with fail
        refine (head_of _ _).mono ?_
        rw [HK.out,HB.out]
        rintro e w1 ⟨rfl,hb⟩;have hz:=hb.size;(try simp only [World.size_alloc,World.size_setCell,World.size_drew,size_drewN] at hz);apply own_step (B:=w.heap.size) hb;(focus (repeat (first | (with_reducible assumption) | (with_reducible exact own_new _ _ _) | ((with_reducible apply own_new');focus (first | omega | (simp;done) | (simp;omega))) | (with_reducible apply own_drewN) | (with_reducible apply own_drew) | (with_reducible apply own_alloc) | (with_reducible apply own_setT) | ((with_reducible apply own_set_otherH);focus (first | (simp;done) | (simp;omega))))));intro hO0;have hk0:=hO0.2.1;have hl0:=hO0.1;have hf0:=hO0.2.2;(try simp only [List.setIfInBounds_toArray,List.set_cons_zero,List.set_cons_succ] at hO0 hk0)
        go_wp2
        go_returns
        exact ⟨rfl,by (repeat' (first | (with_reducible exact Below.refl _ _) | (with_reducible refine below_alloc ?_ _) | (with_reducible refine Below.drew ?_) | (with_reducible refine below_drewN ?_ _) | (with_reducible refine Below.setCell ?_ ?_ _) | (with_reducible assumption) | (with_reducible refine below_of ?_ (by assumption)) | omega | (simp only [World.size_alloc,World.size_setCell,World.size_drew,size_drewN] at *;omega) | (simp;omega)))⟩
    · exact head_check_long src dst words ccval cover sum kind seq w hk
  · rw [Bool.not_eq_true] at hk
    have hcheck:Head.check ⟨src,dst,words,ccval,cover,sum,kind,long,seq⟩=7:=by simp [Head.check,hk]
    rw [hcheck]
    have HK:=Lib.hid hk
    clear hk hcheck
    go_enter Tryz.func103,Tryz.ntmps103
    go_wp2_with fail
    refine (head_of _ _).mono ?_
    rw [HK.out]
    rintro e w1 ⟨rfl,hb⟩;have hz:=hb.size;(try simp only [World.size_alloc,World.size_setCell,World.size_drew,size_drewN] at hz);apply own_step (B:=w.heap.size) hb;(focus (repeat (first | (with_reducible assumption) | (with_reducible exact own_new _ _ _) | ((with_reducible apply own_new');focus (first | omega | (simp;done) | (simp;omega))) | (with_reducible apply own_drewN) | (with_reducible apply own_drew) | (with_reducible apply own_alloc) | (with_reducible apply own_setT) | ((with_reducible apply own_set_otherH);focus (first | (simp;done) | (simp;omega))))));intro hO0;have hk0:=hO0.2.1;have hl0:=hO0.1;have hf0:=hO0.2.2;(try simp only [List.setIfInBounds_toArray,List.set_cons_zero,List.set_cons_succ] at hO0 hk0)
    go_wp2
    go_returns
    exact ⟨rfl,by (repeat' (first | (with_reducible exact Below.refl _ _) | (with_reducible refine below_alloc ?_ _) | (with_reducible refine Below.drew ?_) | (with_reducible refine below_drewN ?_ _) | (with_reducible refine Below.setCell ?_ ?_ _) | (with_reducible assumption) | (with_reducible refine below_of ?_ (by assumption)) | omega | (simp only [World.size_alloc,World.size_setCell,World.size_drew,size_drewN] at *;omega) | (simp;omega)))⟩
end Go.Proofs.YthacfgaacleaeaaGreatDoor
namespace Go.Proofs.YthacfgaacleaeaaGreatDoor
open Go.IntKind (i64 u32)
open Go.RowKit
theorem grow_refl (w:World) (r:Option Nat):w.grownBy w r:=⟨rfl,rfl,rfl,Nat.le_refl _,fun _ _ _=>rfl⟩
theorem grow_trans {a b c:World} {r:Option Nat} (h:a.grownBy b r) (k:b.grownBy c r):a.grownBy c r :=
  ⟨k.os.trans h.os,k.tape.trans h.tape,k.output.trans h.output,Nat.le_trans h.size k.size,fun i hi hne=>(k.block i (Nat.lt_of_lt_of_le hi h.size) hne).trans (h.block i hi hne)⟩
theorem grow_drewN {a w:World} {r:Option Nat} (h:a.grownBy w r) (n:Nat):a.grownBy (w.drewN n) r:=⟨h.os,h.tape,h.output,h.size,h.block⟩
theorem grow_drew {a w:World} {r:Option Nat} (h:a.grownBy w r):a.grownBy w.drew r:=⟨h.os,h.tape,h.output,h.size,h.block⟩
theorem grow_alloc {a w:World} {r:Option Nat} (h:a.grownBy w r) (o:Obj):a.grownBy (w.alloc o) r :=
  grow_trans h (World.grownBy_alloc w o r)
theorem grow_set {a w:World} {B:Nat} (h:a.grownBy w (some B)) (i:Nat) (v:Value):a.grownBy (w.setCell ⟨B,i,none⟩ v) (some B) :=
  grow_trans h ⟨rfl,rfl,rfl,by simp,fun k _ hne=>Below.heap_setCell _ _ _ _ (fun e=>hne (by rw [e]))⟩
def cutFell (size at_:Nat) (fell n:Int) (wrong:Bool):Int:=if fell ≠ 0 then fell else if wrong=true then 3 else if (size:Int) - at_ < n then 1 else 0
theorem cut_take (B:Nat) (s:ByteArray) (at_:Nat) (fell n:Int) (wrong:Bool) (w:World) (hs:s.size≤maxLen) (ha:at_≤s.size) (hO:Own w B #[.string s,.int .i64 at_,.int .i64 fell]) :
    Calls Tryz.prog 138 #[.pointer (some ⟨B,0,none⟩),.int .i64 n,.bool wrong] w fun e w'=>e = .returned (.bool (decide (cutFell s.size at_ fell n wrong=0))) ∧
      Own w' B #[.string s,.int .i64 at_,.int .i64 (cutFell s.size at_ fell n wrong)]∧w.grownBy w' (some B):=by
  unfold maxLen at hs
  have hk:=hO.2.1
  have hl:=hO.1
  have hf:=hO.2.2
  unfold cutFell
  by_cases h0:fell=0
  · subst h0
    cases wrong
    · by_cases hn:(s.size:Int) - at_ < n
      · simp only [ne_eq,not_true_eq_false,if_false,Bool.false_eq_true,if_pos hn]
        go_enter Tryz.func138,Tryz.ntmps138
        go_wp2
        go_quiet (fail)
        go_wp2
        go_ret
        exact ⟨rfl,by ((with_reducible apply own_conv);(focus (repeat (first | (with_reducible assumption) | (with_reducible exact own_new _ _ _) | ((with_reducible apply own_new');focus (first | omega | (simp;done) | (simp;omega))) | (with_reducible apply own_drewN) | (with_reducible apply own_drew) | (with_reducible apply own_alloc) | (with_reducible apply own_setT) | ((with_reducible apply own_set_otherH);focus (first | (simp;done) | (simp;omega))))));simp),by (repeat (first | (with_reducible exact grow_refl _ _) | (with_reducible refine grow_drewN ?_ _) | (with_reducible refine grow_drew ?_) | (with_reducible refine grow_alloc ?_ _) | (with_reducible refine grow_set ?_ _ _) | (with_reducible assumption)))⟩
      · simp only [ne_eq,not_true_eq_false,if_false,Bool.false_eq_true,if_neg hn]
        go_enter Tryz.func138,Tryz.ntmps138
        go_wp2
        go_quiet (fail)
        go_wp2
        go_ret
        exact ⟨rfl,own_drewN hO _,by (repeat (first | (with_reducible exact grow_refl _ _) | (with_reducible refine grow_drewN ?_ _) | (with_reducible refine grow_drew ?_) | (with_reducible refine grow_alloc ?_ _) | (with_reducible refine grow_set ?_ _ _) | (with_reducible assumption)))⟩
    · simp only [ne_eq,not_true_eq_false,if_false,if_true]
      go_enter Tryz.func138,Tryz.ntmps138
      go_wp2
      go_ret
      exact ⟨rfl,by ((with_reducible apply own_conv);(focus (repeat (first | (with_reducible assumption) | (with_reducible exact own_new _ _ _) | ((with_reducible apply own_new');focus (first | omega | (simp;done) | (simp;omega))) | (with_reducible apply own_drewN) | (with_reducible apply own_drew) | (with_reducible apply own_alloc) | (with_reducible apply own_setT) | ((with_reducible apply own_set_otherH);focus (first | (simp;done) | (simp;omega))))));simp),by (repeat (first | (with_reducible exact grow_refl _ _) | (with_reducible refine grow_drewN ?_ _) | (with_reducible refine grow_drew ?_) | (with_reducible refine grow_alloc ?_ _) | (with_reducible refine grow_set ?_ _ _) | (with_reducible assumption)))⟩
  · have hne:(fell != 0)=true:=by simpa using h0
    have hd:decide (fell=0)=false:=by simpa using h0
    simp only [ne_eq,h0,not_false_eq_true,if_true,hd]
    go_enter Tryz.func138,Tryz.ntmps138
    go_wp2
    go_ret
    exact ⟨rfl,hO,by (repeat (first | (with_reducible exact grow_refl _ _) | (with_reducible refine grow_drewN ?_ _) | (with_reducible refine grow_drew ?_) | (with_reducible refine grow_alloc ?_ _) | (with_reducible refine grow_set ?_ _ _) | (with_reducible assumption)))⟩
theorem cut_new (s:ByteArray) (w:World):Calls Tryz.prog 76 #[.string s] w fun e w'=>e = .returned (.pointer (some ⟨w.heap.size,0,none⟩))∧w'=w.alloc (.cells #[.string s,.int .i64 0,.int .i64 0] 224):=by
  go_enter Tryz.func76,Tryz.ntmps76
  go_wp2
  go_ret
  exact ⟨rfl,rfl⟩
end Go.Proofs.YthacfgaacleaeaaGreatDoor
namespace Go.Proofs.YthacfgaacleaeaaGreatDoor
open Go.IntKind (i64 u32)
open Go.RowKit
theorem drew_set_drew (w:World) (p:Addr) (v:Value) (a b:Nat):(w.setCell p v).drewN (a+b)=((w.drewN a).setCell p v).drewN b:=by
  simp [World.drewN,World.setCell,Nat.add_assoc]
def Reads (w:World) (B:Nat) (s:ByteArray) (at_:Int):Prop :=
  w.cell? ⟨B,0,none⟩=some (.string s)∧w.cell? ⟨B,1,none⟩=some (.int .i64 at_)∧w.cell? ⟨B,2,none⟩=some (.int .i64 0)∧w.frozen? ⟨B,1,none⟩=false
theorem cut_takeX (B:Nat) (s:ByteArray) (at_ n:Int) (w:World) (hs:s.size≤maxLen) (h0:0≤at_) (ha:at_≤s.size) (hn:at_+n≤s.size) (hR:Reads w B s at_) :
    Calls Tryz.prog 138 #[.pointer (some ⟨B,0,none⟩),.int .i64 n,.bool false] w fun e w'=>e = .returned (.bool true)∧∃ m,w.drewN m=w':=by
  unfold maxLen at hs
  obtain ⟨c0,c1,c2,f1⟩:=hR
  have hd:decide ((s.size:Int) - at_ < n)=false:=by simp;omega
  go_enter Tryz.func138,Tryz.ntmps138
  go_wp2
  go_quiet (fail)
  go_wp2
  go_ret
  exact ⟨rfl,_,rfl⟩
theorem cut_bytesX (B:Nat) (s:ByteArray) (at_ n:Int) (w:World) (hs:s.size≤maxLen) (h0:0≤at_) (hn0:0≤n) (hn:at_+n≤s.size) (hR:Reads w B s at_) :
    Calls Tryz.prog 94 #[.pointer (some ⟨B,0,none⟩),.int .i64 n] w fun e w'=>e = .returned (.string (s.extract at_.toNat (at_+n).toNat))∧∃ m,(w.setCell ⟨B,1,none⟩ (.int .i64 (at_+n))).drewN m=w':=by
  have ht:=fun n' w'=>cut_takeX B s at_ n' w' hs h0
  have HT:=Lib.hid ht
  clear ht
  have HR:=Lib.hid hR
  unfold maxLen at hs
  obtain ⟨c0,c1,c2,f1⟩:=hR
  have hneg:decide (n < 0)=false:=by simp;omega
  have hle:at_+n≤(s.size:Int):=hn
  go_enter Tryz.func94,Tryz.ntmps94
  go_wp2_with fail
  refine (HT.out _ _ (by omega) hn HR.out).mono ?_
  rintro e w1 ⟨rfl,m1,rfl⟩
  go_wp2
  go_quiet (fail)
  go_wp2
  go_ret
  exact ⟨rfl,_,drew_set_drew _ _ _ _ _⟩
theorem reads_drewN {w:World} {B:Nat} {s:ByteArray} {at_:Int} (h:Reads w B s at_) (n:Nat):Reads (w.drewN n) B s at_:=h
theorem cut_numX (B:Nat) (s:ByteArray) (at_ n:Int) (w:World) (hs:s.size≤maxLen) (h0:0≤at_) (hn0:1≤n) (hn7:n≤7) (hn:at_+n≤s.size) (hR:Reads w B s at_) :
    Calls Tryz.prog 93 #[.pointer (some ⟨B,0,none⟩),.int .i64 n] w fun e w'=>e = .returned (.int .i64 (Oct.val (s.extract at_.toNat (at_+n).toNat).data.toList:Nat))∧∃ m,(w.setCell ⟨B,1,none⟩ (.int .i64 (at_+n))).drewN m=w':=by
  have ht:=fun n' w'=>cut_takeX B s at_ n' w' hs h0
  have HT:=Lib.hid ht
  clear ht
  have hbt:=fun w'=>cut_bytesX B s at_ n w' hs h0 (by omega) hn
  have HB:=Lib.hid hbt
  clear hbt
  have HR:=Lib.hid hR
  clear hR
  have hx:(s.extract at_.toNat (at_+n).toNat).size≤maxLen:=by rw [ByteArray.size_extract];omega
  have hv:Oct.val (s.extract at_.toNat (at_+n).toNat).data.toList < 72057594037927936:=Oct.val_small (by simp;omega)
  have ho:=fun W=>oct_of (s.extract at_.toNat (at_+n).toNat) hx W
  have HO:=Lib.hid ho
  clear ho hx
  have h1:decide (n < 1)=false:=by simp;omega
  have h2:decide (7 < n)=false:=by simp;omega
  go_enter Tryz.func93,Tryz.ntmps93
  go_wp2_with fail
  refine (HT.out _ _ (by omega) hn HR.out).mono ?_
  rintro e w1 ⟨rfl,m1,rfl⟩
  go_wp2_with fail
  refine (HB.out _ (reads_drewN HR.out _)).mono ?_
  rintro e w2 ⟨rfl,m2,rfl⟩
  go_wp2_with fail
  refine (HO.out _).mono ?_
  generalize hgv:Oct.val (s.extract at_.toNat (at_+n).toNat).data.toList=v at *
  have HG:=Lib.hid hgv
  clear hgv
  rw [show wrap64 ((v % 18446744073709551616:Nat):Int)=(v:Int) by unfold wrap64;omega]
  rintro e w3 ⟨rfl,rfl⟩
  go_wp2
  go_ret
  exact ⟨ret_i (by rw [HG.out]),_,drew_set_drew _ _ _ _ _⟩
theorem cut_restX (B:Nat) (s:ByteArray) (at_:Int) (w:World) (hs:s.size≤maxLen) (h0:0≤at_) (ha:at_≤s.size) (hR:Reads w B s at_) :
    Calls Tryz.prog 80 #[.pointer (some ⟨B,0,none⟩)] w fun e w'=>e = .returned (.string (s.extract at_.toNat s.size))∧∃ m,(w.setCell ⟨B,1,none⟩ (.int .i64 s.size)).drewN m=w':=by
  have hbt:=fun w'=>cut_bytesX B s at_ (s.size - at_) w' hs h0 (by omega) (by omega)
  rw [show at_+((s.size:Int) - at_)=s.size by omega,show ((s.size:Int)).toNat=s.size by omega] at hbt
  have HB:=Lib.hid hbt
  clear hbt
  have HR:=Lib.hid hR
  unfold maxLen at hs
  obtain ⟨c0,c1,c2,f1⟩:=hR
  have hl:∀ W:World,W.cell? ⟨B,0,none⟩=some (.string s)→W.cell? ⟨B,1,none⟩=some (.int .i64 at_)→Calls Tryz.prog 130 #[.pointer (some ⟨B,0,none⟩)] W fun e w'=>e = .returned (.int .i64 (s.size - at_))∧∃ m,W.drewN m=w':=by
    intro W d0 d1
    clear c0 c1 c2 f1
    go_enter Tryz.func130,Tryz.ntmps130
    go_wp2
    go_quiet (fail)
    go_wp2
    go_ret
    exact ⟨rfl,_,rfl⟩
  have HL:=Lib.hid hl
  clear hl
  go_enter Tryz.func80,Tryz.ntmps80
  go_wp2_with fail
  refine (HL.out _ c0 c1).mono ?_
  rintro e w1 ⟨rfl,m1,rfl⟩
  go_wp2_with fail
  refine (HB.out _ (reads_drewN HR.out _)).mono ?_
  rintro e w2 ⟨rfl,m2,rfl⟩
  go_wp2
  go_ret
  exact ⟨rfl,_,drew_set_drew _ _ _ _ _⟩
end Go.Proofs.YthacfgaacleaeaaGreatDoor
namespace Go.Proofs.YthacfgaacleaeaaGreatDoor
open Go.IntKind (i64 u32)
open Go.RowKit
set_option maxRecDepth 100000 in
set_option maxHeartbeats 4000000 in
theorem head_put_ok (src dst words ccval cover sum kind seq:Int) (long:Bool) (w:World) (hc:Head.check ⟨src,dst,words,ccval,cover,sum,kind,long,seq⟩=0) :
    Calls Tryz.prog 60 #[(⟨src,dst,words,ccval,cover,sum,kind,long,seq⟩:Head.H).v] w fun e w'=>e = .returned (.tuple #[.string ⟨(Head.put ⟨src,dst,words,ccval,cover,sum,kind,long,seq⟩).toArray⟩,.int .i64 0])∧Below w.heap.size w w':=by
  have HC:=Lib.hid hc
  clear hc
  go_enter Tryz.func60,Tryz.ntmps60
  go_wp2_with fail
  refine (head_check ⟨src,dst,words,ccval,cover,sum,kind,long,seq⟩ _).mono ?_
  rw [HC.out]
  rintro e w1 ⟨rfl,hb⟩;have hz:=hb.size;(try simp only [World.size_alloc,World.size_setCell,World.size_drew,size_drewN] at hz);apply own_step (B:=w.heap.size) hb;(focus (repeat (first | (with_reducible assumption) | (with_reducible exact own_new _ _ _) | ((with_reducible apply own_new');focus (first | omega | (simp;done) | (simp;omega))) | (with_reducible apply own_drewN) | (with_reducible apply own_drew) | (with_reducible apply own_alloc) | (with_reducible apply own_setT) | ((with_reducible apply own_set_otherH);focus (first | (simp;done) | (simp;omega))))));intro hO0;have hk0:=hO0.2.1;have hl0:=hO0.1;have hf0:=hO0.2.2;(try simp only [List.setIfInBounds_toArray,List.set_cons_zero,List.set_cons_succ] at hO0 hk0)
  go_wp2_with fail
  go_region_held3 (fun w'=>w'.cell? ⟨w.heap.size,0,none⟩=some (.int .i64 src)∧w'.cell? ⟨w.heap.size,1,none⟩=some (.int .i64 dst)) (go_keep) (first | (go_at_call 52;refine (oct_putL _ _ _ (by omega) (by omega) (by simp [Oct.be_length]) _).mono ?_;rintro e w3 ⟨rfl,hb⟩;have hz:=hb.size;(try simp only [World.size_alloc,World.size_setCell,World.size_drew,size_drewN] at hz);apply own_step (B:=w.heap.size) hb;(focus (repeat (first | (with_reducible assumption) | (with_reducible exact own_new _ _ _) | ((with_reducible apply own_new');focus (first | omega | (simp;done) | (simp;omega))) | (with_reducible apply own_drewN) | (with_reducible apply own_drew) | (with_reducible apply own_alloc) | (with_reducible apply own_setT) | ((with_reducible apply own_set_otherH);focus (first | (simp;done) | (simp;omega))))));intro hO0;have hk0:=hO0.2.1;have hl0:=hO0.1;have hf0:=hO0.2.2;(try simp only [List.setIfInBounds_toArray,List.set_cons_zero,List.set_cons_succ] at hO0 hk0)))
  have hk:=Head.check_ok HC.out
  simp only [] at hk
  obtain ⟨⟨k0,k1⟩,_,⟨s0,s1⟩,⟨d0,d1⟩,⟨m0,m1⟩,⟨v0,v1⟩,⟨c0,c1⟩,⟨q0,q1⟩,⟨w0,w1'⟩,_⟩:=hk
  have hj:∀ a b:Int,0≤a→a≤15→0≤b→b≤15→bits .or .i64 (a * 16) b=16 * a+b:=by
    intro a b h0 h1 h2 h3
    obtain ⟨x,rfl⟩:=Int.eq_ofNat_of_zero_le h0
    obtain ⟨y,rfl⟩:=Int.eq_ofNat_of_zero_le h2
    have:=Head.i64_or_join 4 x y (by omega) (by omega) (by omega)
    rw [show ((x * 2 ^ 4:Nat):Int)=(x:Int) * 16 by omega] at this
    rw [this];omega
  have hj1:∀ a:Int,0≤a→a≤9→bits .or .i64 (a * 2) 1=2 * a+1:=by
    intro a h0 h1
    obtain ⟨x,rfl⟩:=Int.eq_ofNat_of_zero_le h0
    have:=Head.i64_or_join 1 x 1 (by omega) (by omega) (by omega)
    rw [show ((x * 2 ^ 1:Nat):Int)=(x:Int) * 2 by omega] at this
    rw [show ((1:Nat):Int)=1 from rfl] at this
    rw [this];omega
  have hor:=hj ccval cover v0 v1 c0 c1
  have hor1:=hj1 kind k0 k1
  have hw16:i64.wrap (ccval * 16)=ccval * 16:=IntWalk.i64_in _ (by omega)
  have hw2:i64.wrap (kind * 2)=kind * 2:=IntWalk.i64_in _ (by omega)
  clear hj hj1
  have hcat:∀ a b:List UInt8,(⟨a.toArray⟩:ByteArray)++(⟨b.toArray⟩:ByteArray)=⟨(a++b).toArray⟩:=fun a b=>ByteArray.ext (by simp)
  have hbe:∀ u k,(Oct.be u k).length=k:=Oct.be_length
  go_wp2_with fail
  go_region_held3 (fun w'=>w'.cell? ⟨w.heap.size,2,none⟩=some (.int .i64 words)∧w'.cell? ⟨w.heap.size,3,none⟩=some (.int .i64 ccval)∧w'.cell? ⟨w.heap.size,4,none⟩=some (.int .i64 cover)) (go_keep) (first | (go_at_call 52;refine (oct_putL _ _ _ (by omega) (by omega) (by simp [Oct.be_length]) _).mono ?_;rintro e w3 ⟨rfl,hb⟩;have hz:=hb.size;(try simp only [World.size_alloc,World.size_setCell,World.size_drew,size_drewN] at hz);apply own_step (B:=w.heap.size) hb;(focus (repeat (first | (with_reducible assumption) | (with_reducible exact own_new _ _ _) | ((with_reducible apply own_new');focus (first | omega | (simp;done) | (simp;omega))) | (with_reducible apply own_drewN) | (with_reducible apply own_drew) | (with_reducible apply own_alloc) | (with_reducible apply own_setT) | ((with_reducible apply own_set_otherH);focus (first | (simp;done) | (simp;omega))))));intro hO0;have hk0:=hO0.2.1;have hl0:=hO0.1;have hf0:=hO0.2.2;(try simp only [List.setIfInBounds_toArray,List.set_cons_zero,List.set_cons_succ] at hO0 hk0)))
  go_wp2_with fail
  refine (oct_putL _ _ _ (by omega) (by omega) (by simp [Oct.be_length]) _).mono ?_;rintro e w3 ⟨rfl,hb⟩;have hz:=hb.size;(try simp only [World.size_alloc,World.size_setCell,World.size_drew,size_drewN] at hz);apply own_step (B:=w.heap.size) hb;(focus (repeat (first | (with_reducible assumption) | (with_reducible exact own_new _ _ _) | ((with_reducible apply own_new');focus (first | omega | (simp;done) | (simp;omega))) | (with_reducible apply own_drewN) | (with_reducible apply own_drew) | (with_reducible apply own_alloc) | (with_reducible apply own_setT) | ((with_reducible apply own_set_otherH);focus (first | (simp;done) | (simp;omega))))));intro hO0;have hk0:=hO0.2.1;have hl0:=hO0.1;have hf0:=hO0.2.2;(try simp only [List.setIfInBounds_toArray,List.set_cons_zero,List.set_cons_succ] at hO0 hk0)
  go_wp2_with fail
  · go_region_held3 (fun w'=>w'.cell? ⟨w.heap.size,6,none⟩=some (.int .i64 kind)∧w'.cell? ⟨w.heap.size,8,none⟩=some (.int .i64 seq)) (go_keep) (first | (go_at_call 52;refine (oct_putL _ _ _ (by omega) (by omega) (by simp [Oct.be_length]) _).mono ?_;rintro e w3 ⟨rfl,hb⟩;have hz:=hb.size;(try simp only [World.size_alloc,World.size_setCell,World.size_drew,size_drewN] at hz);apply own_step (B:=w.heap.size) hb;(focus (repeat (first | (with_reducible assumption) | (with_reducible exact own_new _ _ _) | ((with_reducible apply own_new');focus (first | omega | (simp;done) | (simp;omega))) | (with_reducible apply own_drewN) | (with_reducible apply own_drew) | (with_reducible apply own_alloc) | (with_reducible apply own_setT) | ((with_reducible apply own_set_otherH);focus (first | (simp;done) | (simp;omega))))));intro hO0;have hk0:=hO0.2.1;have hl0:=hO0.1;have hf0:=hO0.2.2;(try simp only [List.setIfInBounds_toArray,List.set_cons_zero,List.set_cons_succ] at hO0 hk0)))
    go_wp2_with fail
    clear hbe hcat hor hor1 hw16 hw2
    go_returns
    go_light
    have hlong:long=true:=by assumption
    subst hlong
    exact ⟨ret_v (by simp [Head.put,Int.mul_comm]),by (repeat' (first | (with_reducible exact Below.refl _ _) | (with_reducible refine below_alloc ?_ _) | (with_reducible refine Below.drew ?_) | (with_reducible refine below_drewN ?_ _) | (with_reducible refine Below.setCell ?_ ?_ _) | (with_reducible assumption) | (with_reducible refine below_of ?_ (by assumption)) | omega | (simp only [World.size_alloc,World.size_setCell,World.size_drew,size_drewN] at *;omega) | (simp;omega)))⟩
  · go_region_held3 (fun w'=>w'.cell? ⟨w.heap.size,6,none⟩=some (.int .i64 kind)∧w'.cell? ⟨w.heap.size,8,none⟩=some (.int .i64 seq)) (go_keep) (first | (go_at_call 52;refine (oct_putL _ _ _ (by omega) (by omega) (by simp [Oct.be_length]) _).mono ?_;rintro e w3 ⟨rfl,hb⟩;have hz:=hb.size;(try simp only [World.size_alloc,World.size_setCell,World.size_drew,size_drewN] at hz);apply own_step (B:=w.heap.size) hb;(focus (repeat (first | (with_reducible assumption) | (with_reducible exact own_new _ _ _) | ((with_reducible apply own_new');focus (first | omega | (simp;done) | (simp;omega))) | (with_reducible apply own_drewN) | (with_reducible apply own_drew) | (with_reducible apply own_alloc) | (with_reducible apply own_setT) | ((with_reducible apply own_set_otherH);focus (first | (simp;done) | (simp;omega))))));intro hO0;have hk0:=hO0.2.1;have hl0:=hO0.1;have hf0:=hO0.2.2;(try simp only [List.setIfInBounds_toArray,List.set_cons_zero,List.set_cons_succ] at hO0 hk0)))
    go_wp2_with fail
    clear hbe hcat hor hor1 hw16 hw2
    go_returns
    go_light
    have hlong:long=false:=by assumption
    subst hlong
    exact ⟨ret_v (by simp [Head.put,Int.mul_comm]),by (repeat' (first | (with_reducible exact Below.refl _ _) | (with_reducible refine below_alloc ?_ _) | (with_reducible refine Below.drew ?_) | (with_reducible refine below_drewN ?_ _) | (with_reducible refine Below.setCell ?_ ?_ _) | (with_reducible assumption) | (with_reducible refine below_of ?_ (by assumption)) | omega | (simp only [World.size_alloc,World.size_setCell,World.size_drew,size_drewN] at *;omega) | (simp;omega)))⟩
set_option maxRecDepth 100000 in
theorem head_put_no (h:Head.H) (w:World) (hc:Head.check h ≠ 0) :
    Calls Tryz.prog 60 #[h.v] w fun e w'=>e = .returned (.tuple #[.string ⟨#[]⟩,.int .i64 (Head.check h)])∧Below w.heap.size w w':=by
  have hn:(Head.check h != 0)=true:=by simpa using hc
  clear hc
  go_enter Tryz.func60,Tryz.ntmps60
  go_wp2_with fail
  refine (head_check h _).mono ?_
  rintro e w1 ⟨rfl,hb⟩;have hz:=hb.size;(try simp only [World.size_alloc,World.size_setCell,World.size_drew,size_drewN] at hz);apply own_step (B:=w.heap.size) hb;(focus (repeat (first | (with_reducible assumption) | (with_reducible exact own_new _ _ _) | ((with_reducible apply own_new');focus (first | omega | (simp;done) | (simp;omega))) | (with_reducible apply own_drewN) | (with_reducible apply own_drew) | (with_reducible apply own_alloc) | (with_reducible apply own_setT) | ((with_reducible apply own_set_otherH);focus (first | (simp;done) | (simp;omega))))));intro hO0;have hk0:=hO0.2.1;have hl0:=hO0.1;have hf0:=hO0.2.2;(try simp only [List.setIfInBounds_toArray,List.set_cons_zero,List.set_cons_succ] at hO0 hk0)
  go_wp2
  go_returns
  exact ⟨rfl,by (repeat' (first | (with_reducible exact Below.refl _ _) | (with_reducible refine below_alloc ?_ _) | (with_reducible refine Below.drew ?_) | (with_reducible refine below_drewN ?_ _) | (with_reducible refine Below.setCell ?_ ?_ _) | (with_reducible assumption) | (with_reducible refine below_of ?_ (by assumption)) | omega | (simp only [World.size_alloc,World.size_setCell,World.size_drew,size_drewN] at *;omega) | (simp;omega)))⟩
end Go.Proofs.YthacfgaacleaeaaGreatDoor
namespace Go.Proofs.YthacfgaacleaeaaGreatDoor
open Go.IntKind (i64 u32)
open Go.RowKit
def nu (s:ByteArray) (a b:Nat):Nat:=Oct.val (s.extract a b).data.toList
set_option maxRecDepth 100000 in
set_option maxHeartbeats 4000000 in
theorem head_get_short (s:ByteArray) (w:World) (hs:s.size < 12):Calls Tryz.prog 127 #[.string s] w fun e w'=>e = .returned (.tuple #[(⟨0,0,0,0,0,0,0,false,0⟩:Head.H).v,.string ⟨#[]⟩,.int .i64 1])∧Below w.heap.size w w':=by
  go_enter Tryz.func127,Tryz.ntmps127
  go_wp2
  go_returns
  exact ⟨rfl,by (repeat' (first | (with_reducible exact Below.refl _ _) | (with_reducible refine below_alloc ?_ _) | (with_reducible refine Below.drew ?_) | (with_reducible refine below_drewN ?_ _) | (with_reducible refine Below.setCell ?_ ?_ _) | (with_reducible assumption) | (with_reducible refine below_of ?_ (by assumption)) | omega | (simp only [World.size_alloc,World.size_setCell,World.size_drew,size_drewN] at *;omega) | (simp;omega)))⟩
def hd (s:ByteArray) (long:Bool):Head.H:=⟨nu s 0 2,nu s 2 4,nu s 4 5,(nu s 5 6:Int) / 16,(nu s 5 6:Int) % 16,nu s 6 8,(nu s 8 9:Int) / 2 % 16,long,if long=true then nu s 10 16 else nu s 9 12⟩
def hnone:Head.H:=⟨0,0,0,0,0,0,0,false,0⟩
def get (s:ByteArray):Head.H×ByteArray×Int :=
  if s.size < 12 then (hnone,⟨#[]⟩,1)
  else if nu s 8 9 % 2=1 then
    if s.size < 16 then (hnone,⟨#[]⟩,1)
    else if nu s 8 9 / 32=0∧nu s 9 10=0 then
      if Head.check (hd s true)=0 then (hd s true,s.extract 16 s.size,0) else (hnone,⟨#[]⟩,Head.check (hd s true))
    else (hnone,⟨#[]⟩,4)
  else if nu s 8 9 / 32=0 then
    if Head.check (hd s false)=0 then (hd s false,s.extract 12 s.size,0) else (hnone,⟨#[]⟩,Head.check (hd s false))
  else (hnone,⟨#[]⟩,4)
set_option maxRecDepth 100000 in
set_option maxHeartbeats 4000000 in
theorem head_get_long (s:ByteArray) (w:World) (hs:12≤s.size) (hm:s.size≤maxLen):Calls Tryz.prog 127 #[.string s] w fun e w'=>e = .returned (.tuple #[(get s).1.v,.string (get s).2.1,.int .i64 (get s).2.2])∧Below w.heap.size w w':=by
  have hm':=hm
  unfold maxLen at hm'
  go_enter Tryz.func127,Tryz.ntmps127
  go_wp2_with fail
  refine (cut_new s _).mono ?_
  rintro e w1 ⟨rfl,rfl⟩
  go_wp2_with fail
  have hb:∀ a b,b≤a+1→nu s a b < 256:=fun a b h=>Nat.lt_of_lt_of_le (Oct.val_lt _) (Nat.pow_le_pow_right (by decide) (show (s.extract a b).data.toList.length≤1 by simp;omega))
  have b8:=hb 8 9 (by omega)
  have b9:=hb 9 10 (by omega)
  clear hb
  have hds:∀ (W:World) (n:Nat) (p:Addr) (v:Value),(W.drewN n).setCell p v=(W.setCell p v).drewN n:=fun _ _ _ _=>rfl
  have a15:=Head.and15 (nu s 5 6)
  have a15':=Head.and15 ((nu s 8 9:Int) / 2)
  have a1:=Head.and1 (nu s 8 9)
  have hor:=Head.or_zero (nu s 8 9 / 32) (nu s 9 10) (by omega) (by omega)
  rw [show ((nu s 8 9 / 32:Nat):Int)=(nu s 8 9:Int) / 32 by omega] at hor
  have HOR:=Lib.hid hor
  clear hor
  have hn12:¬ s.size < 12:=by omega
  refine (cut_numX _ s 0 2 _ hm (by omega) (by omega) (by omega) (by omega) ⟨by simp [go_sem],by simp [go_sem],by simp [go_sem],by simp [go_sem]⟩).mono ?_
  rw [show Oct.val (s.extract ((0:Int)).toNat ((0:Int)+2).toNat).data.toList=nu s 0 2 from rfl]
  rintro e w1 ⟨rfl,m,rfl⟩
  go_wp2_with fail
  refine (cut_numX _ s 2 2 _ hm (by omega) (by omega) (by omega) (by omega) ⟨by simp [go_sem],by simp [go_sem],by simp [go_sem],by simp [go_sem]⟩).mono ?_
  rw [show Oct.val (s.extract ((2:Int)).toNat ((2:Int)+2).toNat).data.toList=nu s 2 4 from rfl]
  rintro e w1 ⟨rfl,m,rfl⟩
  go_wp2_with fail
  refine (cut_numX _ s 4 1 _ hm (by omega) (by omega) (by omega) (by omega) ⟨by simp [go_sem],by simp [go_sem],by simp [go_sem],by simp [go_sem]⟩).mono ?_
  rw [show Oct.val (s.extract ((4:Int)).toNat ((4:Int)+1).toNat).data.toList=nu s 4 5 from rfl]
  rintro e w1 ⟨rfl,m,rfl⟩
  go_wp2_with fail
  refine (cut_numX _ s 5 1 _ hm (by omega) (by omega) (by omega) (by omega) ⟨by simp [go_sem],by simp [go_sem],by simp [go_sem],by simp [go_sem]⟩).mono ?_
  rw [show Oct.val (s.extract ((5:Int)).toNat ((5:Int)+1).toNat).data.toList=nu s 5 6 from rfl]
  rintro e w1 ⟨rfl,m,rfl⟩
  go_wp2_with fail
  refine (cut_numX _ s 6 2 _ hm (by omega) (by omega) (by omega) (by omega) ⟨by simp [go_sem],by simp [go_sem],by simp [go_sem],by simp [go_sem]⟩).mono ?_
  rw [show Oct.val (s.extract ((6:Int)).toNat ((6:Int)+2).toNat).data.toList=nu s 6 8 from rfl]
  rintro e w1 ⟨rfl,m,rfl⟩
  go_wp2_with fail
  by_cases hlong:nu s 8 9 % 2=1
  · have t1:((nu s 8 9:Int) % 2 == 1)=true:=by simp;omega
    by_cases h16:s.size < 16
    · have hg:get s=(hnone,⟨#[]⟩,1):=by simp only [get,if_neg hn12,if_pos hlong,if_pos h16]
      have HG:=Lib.hid hg
      clear hg hlong
      refine (cut_numX _ s 8 1 _ hm (by omega) (by omega) (by omega) (by omega) ⟨by simp [go_sem],by simp [go_sem],by simp [go_sem],by simp [go_sem]⟩).mono ?_
      rw [show Oct.val (s.extract ((8:Int)).toNat ((8:Int)+1).toNat).data.toList=nu s 8 9 from rfl]
      rintro e w1 ⟨rfl,m,rfl⟩
      go_wp2_with fail
      go_returns
      exact ⟨ret_v (by rw [HG.out];rfl),by (repeat' (first | (with_reducible exact Below.refl _ _) | (with_reducible refine below_alloc ?_ _) | (with_reducible refine Below.drew ?_) | (with_reducible refine below_drewN ?_ _) | (with_reducible refine Below.setCell ?_ ?_ _) | (with_reducible assumption) | (with_reducible refine below_of ?_ (by assumption)) | omega | (simp only [World.size_alloc,World.size_setCell,World.size_drew,size_drewN] at *;omega) | (simp;omega)))⟩
    · have h16':(16:Int)≤s.size:=by omega
      by_cases hsp:nu s 8 9 / 32=0∧nu s 9 10=0
      · have hor:(bits .or .i64 ((nu s 8 9:Int) / 32) (nu s 9 10:Int) != 0)=false:=by rw [HOR.out];simp [hsp.1,hsp.2]
        have hg:get s=if Head.check (hd s true)=0 then (hd s true,s.extract 16 s.size,0) else (hnone,⟨#[]⟩,Head.check (hd s true)):=by simp only [get,if_neg hn12,if_pos hlong,if_neg h16,if_pos hsp]
        have HG:=Lib.hid hg
        clear hg hlong hsp
        refine (cut_numX _ s 8 1 _ hm (by omega) (by omega) (by omega) (by omega) ⟨by simp [go_sem],by simp [go_sem],by simp [go_sem],by simp [go_sem]⟩).mono ?_
        rw [show Oct.val (s.extract ((8:Int)).toNat ((8:Int)+1).toNat).data.toList=nu s 8 9 from rfl]
        rintro e w1 ⟨rfl,m,rfl⟩
        go_wp2_with fail
        refine (cut_numX _ s 9 1 _ hm (by omega) (by omega) (by omega) (by omega) ⟨by simp [go_sem],by simp [go_sem],by simp [go_sem],by simp [go_sem]⟩).mono ?_
        rw [show Oct.val (s.extract ((9:Int)).toNat ((9:Int)+1).toNat).data.toList=nu s 9 10 from rfl]
        rintro e w1 ⟨rfl,m,rfl⟩
        go_wp2_with fail
        refine (head_pick _ _ _ _).mono ?_
        rw [if_pos rfl]
        rintro e w1 ⟨rfl,rfl⟩
        go_wp2_with fail
        refine (cut_numX _ s 10 6 _ hm (by omega) (by omega) (by omega) (by omega) ⟨by simp [go_sem],by simp [go_sem],by simp [go_sem],by simp [go_sem]⟩).mono ?_
        rw [show Oct.val (s.extract ((10:Int)).toNat ((10:Int)+6).toNat).data.toList=nu s 10 16 from rfl]
        rintro e w1 ⟨rfl,m,rfl⟩
        go_wp2_with fail
        by_cases hc:Head.check (hd s true)=0
        · have HC:=Lib.hid hc
          clear hc
          refine (head_check (hd s true) _).mono ?_
          rw [HC.out]
          rintro e w1 ⟨rfl,hb⟩;have hz:=hb.size;(try simp only [World.size_alloc,World.size_setCell,World.size_drew,size_drewN] at hz);apply own_step (B:=w.heap.size) hb;(focus (repeat (first | (with_reducible assumption) | (with_reducible exact own_new _ _ _) | ((with_reducible apply own_new');focus (first | omega | (simp;done) | (simp;omega))) | (with_reducible apply own_drewN) | (with_reducible apply own_drew) | (with_reducible apply own_alloc) | (with_reducible apply own_setT) | ((with_reducible apply own_set_otherH);focus (first | (simp;done) | (simp;omega))))));intro hO0;have hk0:=hO0.2.1;have hl0:=hO0.1;have hf0:=hO0.2.2;(try simp only [List.setIfInBounds_toArray,List.set_cons_zero,List.set_cons_succ] at hO0 hk0);apply own_step (B:=w.heap.size+1) hb;(focus (repeat (first | (with_reducible assumption) | (with_reducible exact own_new _ _ _) | ((with_reducible apply own_new');focus (first | omega | (simp;done) | (simp;omega))) | (with_reducible apply own_drewN) | (with_reducible apply own_drew) | (with_reducible apply own_alloc) | (with_reducible apply own_setT) | ((with_reducible apply own_set_otherH);focus (first | (simp;done) | (simp;omega))))));intro hO1;have hk1:=hO1.2.1;have hl1:=hO1.1;have hf1:=hO1.2.2;(try simp only [List.setIfInBounds_toArray,List.set_cons_zero,List.set_cons_succ] at hO1 hk1);apply own_step (B:=w.heap.size+1+1) hb;(focus (repeat (first | (with_reducible assumption) | (with_reducible exact own_new _ _ _) | ((with_reducible apply own_new');focus (first | omega | (simp;done) | (simp;omega))) | (with_reducible apply own_drewN) | (with_reducible apply own_drew) | (with_reducible apply own_alloc) | (with_reducible apply own_setT) | ((with_reducible apply own_set_otherH);focus (first | (simp;done) | (simp;omega))))));intro hO2;have hk2:=hO2.2.1;have hl2:=hO2.1;have hf2:=hO2.2.2;(try simp only [List.setIfInBounds_toArray,List.set_cons_zero,List.set_cons_succ] at hO2 hk2);apply own_step (B:=w.heap.size+1+1+1) hb;(focus (repeat (first | (with_reducible assumption) | (with_reducible exact own_new _ _ _) | ((with_reducible apply own_new');focus (first | omega | (simp;done) | (simp;omega))) | (with_reducible apply own_drewN) | (with_reducible apply own_drew) | (with_reducible apply own_alloc) | (with_reducible apply own_setT) | ((with_reducible apply own_set_otherH);focus (first | (simp;done) | (simp;omega))))));intro hO3;have hk3:=hO3.2.1;have hl3:=hO3.1;have hf3:=hO3.2.2;(try simp only [List.setIfInBounds_toArray,List.set_cons_zero,List.set_cons_succ] at hO3 hk3)
          go_wp2_with fail
          go_region_with (first | (go_at_call 80;refine (cut_restX _ s 16 _ hm (by omega) (by omega) ⟨by simp [hk2],by simp [hk2],by simp [hk2],by simp [hf2]⟩).mono ?_;rintro e w1 ⟨rfl,m,rfl⟩))
          all_goals (go_wp2;((try simp only [Exit.inBlock,Exit.then]);refine bodyPost_ret (by simp [results,Tryz.results127,go_sem,hk0,hk3];try rfl) rfl ?_);go_light;exact ⟨ret_v (by rw [HG.out,if_pos HC.out];rfl),by (repeat' (first | (with_reducible exact Below.refl _ _) | (with_reducible refine below_alloc ?_ _) | (with_reducible refine Below.drew ?_) | (with_reducible refine below_drewN ?_ _) | (with_reducible refine Below.setCell ?_ ?_ _) | (with_reducible assumption) | (with_reducible refine below_of ?_ (by assumption)) | omega | (simp only [World.size_alloc,World.size_setCell,World.size_drew,size_drewN] at *;omega) | (simp;omega)))⟩)
        · have hcn:(Head.check (hd s true) != 0)=true:=by simpa using hc
          have HC:=Lib.hid hc
          clear hc
          refine (head_check (hd s true) _).mono ?_
          rintro e w1 ⟨rfl,hb⟩;have hz:=hb.size;(try simp only [World.size_alloc,World.size_setCell,World.size_drew,size_drewN] at hz);apply own_step (B:=w.heap.size) hb;(focus (repeat (first | (with_reducible assumption) | (with_reducible exact own_new _ _ _) | ((with_reducible apply own_new');focus (first | omega | (simp;done) | (simp;omega))) | (with_reducible apply own_drewN) | (with_reducible apply own_drew) | (with_reducible apply own_alloc) | (with_reducible apply own_setT) | ((with_reducible apply own_set_otherH);focus (first | (simp;done) | (simp;omega))))));intro hO0;have hk0:=hO0.2.1;have hl0:=hO0.1;have hf0:=hO0.2.2;(try simp only [List.setIfInBounds_toArray,List.set_cons_zero,List.set_cons_succ] at hO0 hk0);apply own_step (B:=w.heap.size+1) hb;(focus (repeat (first | (with_reducible assumption) | (with_reducible exact own_new _ _ _) | ((with_reducible apply own_new');focus (first | omega | (simp;done) | (simp;omega))) | (with_reducible apply own_drewN) | (with_reducible apply own_drew) | (with_reducible apply own_alloc) | (with_reducible apply own_setT) | ((with_reducible apply own_set_otherH);focus (first | (simp;done) | (simp;omega))))));intro hO1;have hk1:=hO1.2.1;have hl1:=hO1.1;have hf1:=hO1.2.2;(try simp only [List.setIfInBounds_toArray,List.set_cons_zero,List.set_cons_succ] at hO1 hk1)
          go_wp2_with fail
          ((try simp only [Exit.inBlock,Exit.then]);refine bodyPost_ret (by simp [results,Tryz.results127,go_sem,hk0,hk1];try rfl) rfl ?_)
          exact ⟨ret_v (by rw [HG.out,if_neg HC.out];rfl),by (repeat' (first | (with_reducible exact Below.refl _ _) | (with_reducible refine below_alloc ?_ _) | (with_reducible refine Below.drew ?_) | (with_reducible refine below_drewN ?_ _) | (with_reducible refine Below.setCell ?_ ?_ _) | (with_reducible assumption) | (with_reducible refine below_of ?_ (by assumption)) | omega | (simp only [World.size_alloc,World.size_setCell,World.size_drew,size_drewN] at *;omega) | (simp;omega)))⟩
      · have hor:(bits .or .i64 ((nu s 8 9:Int) / 32) (nu s 9 10:Int) != 0)=true:=by
          rw [HOR.out];simp only [Bool.not_eq_true',Bool.and_eq_false_iff,beq_eq_false_iff_ne];omega
        have hg:get s=(hnone,⟨#[]⟩,4):=by simp only [get,if_neg hn12,if_pos hlong,if_neg h16,if_neg hsp]
        have HG:=Lib.hid hg
        clear hg hlong hsp
        refine (cut_numX _ s 8 1 _ hm (by omega) (by omega) (by omega) (by omega) ⟨by simp [go_sem],by simp [go_sem],by simp [go_sem],by simp [go_sem]⟩).mono ?_
        rw [show Oct.val (s.extract ((8:Int)).toNat ((8:Int)+1).toNat).data.toList=nu s 8 9 from rfl]
        rintro e w1 ⟨rfl,m,rfl⟩
        go_wp2_with fail
        refine (cut_numX _ s 9 1 _ hm (by omega) (by omega) (by omega) (by omega) ⟨by simp [go_sem],by simp [go_sem],by simp [go_sem],by simp [go_sem]⟩).mono ?_
        rw [show Oct.val (s.extract ((9:Int)).toNat ((9:Int)+1).toNat).data.toList=nu s 9 10 from rfl]
        rintro e w1 ⟨rfl,m,rfl⟩
        go_wp2_with fail
        go_returns
        exact ⟨ret_v (by rw [HG.out];rfl),by (repeat' (first | (with_reducible exact Below.refl _ _) | (with_reducible refine below_alloc ?_ _) | (with_reducible refine Below.drew ?_) | (with_reducible refine below_drewN ?_ _) | (with_reducible refine Below.setCell ?_ ?_ _) | (with_reducible assumption) | (with_reducible refine below_of ?_ (by assumption)) | omega | (simp only [World.size_alloc,World.size_setCell,World.size_drew,size_drewN] at *;omega) | (simp;omega)))⟩
  · have t1:((nu s 8 9:Int) % 2 == 1)=false:=by simp;omega
    by_cases hsp:nu s 8 9 / 32=0
    · have h32:((nu s 8 9:Int) / 32 != 0)=false:=by simp;omega
      have hg:get s=if Head.check (hd s false)=0 then (hd s false,s.extract 12 s.size,0) else (hnone,⟨#[]⟩,Head.check (hd s false)):=by simp only [get,if_neg hn12,if_neg hlong,if_pos hsp]
      have HG:=Lib.hid hg
      clear hg hlong hsp
      refine (cut_numX _ s 8 1 _ hm (by omega) (by omega) (by omega) (by omega) ⟨by simp [go_sem],by simp [go_sem],by simp [go_sem],by simp [go_sem]⟩).mono ?_
      rw [show Oct.val (s.extract ((8:Int)).toNat ((8:Int)+1).toNat).data.toList=nu s 8 9 from rfl]
      rintro e w1 ⟨rfl,m,rfl⟩
      go_wp2_with fail
      refine (head_pick _ _ _ _).mono ?_
      rw [if_neg Bool.false_ne_true]
      rintro e w1 ⟨rfl,rfl⟩
      go_wp2_with fail
      refine (cut_numX _ s 9 3 _ hm (by omega) (by omega) (by omega) (by omega) ⟨by simp [go_sem],by simp [go_sem],by simp [go_sem],by simp [go_sem]⟩).mono ?_
      rw [show Oct.val (s.extract ((9:Int)).toNat ((9:Int)+3).toNat).data.toList=nu s 9 12 from rfl]
      rintro e w1 ⟨rfl,m,rfl⟩
      go_wp2_with fail
      by_cases hc:Head.check (hd s false)=0
      · have HC:=Lib.hid hc
        clear hc
        refine (head_check (hd s false) _).mono ?_
        rw [HC.out]
        rintro e w1 ⟨rfl,hb⟩;have hz:=hb.size;(try simp only [World.size_alloc,World.size_setCell,World.size_drew,size_drewN] at hz);apply own_step (B:=w.heap.size) hb;(focus (repeat (first | (with_reducible assumption) | (with_reducible exact own_new _ _ _) | ((with_reducible apply own_new');focus (first | omega | (simp;done) | (simp;omega))) | (with_reducible apply own_drewN) | (with_reducible apply own_drew) | (with_reducible apply own_alloc) | (with_reducible apply own_setT) | ((with_reducible apply own_set_otherH);focus (first | (simp;done) | (simp;omega))))));intro hO0;have hk0:=hO0.2.1;have hl0:=hO0.1;have hf0:=hO0.2.2;(try simp only [List.setIfInBounds_toArray,List.set_cons_zero,List.set_cons_succ] at hO0 hk0);apply own_step (B:=w.heap.size+1) hb;(focus (repeat (first | (with_reducible assumption) | (with_reducible exact own_new _ _ _) | ((with_reducible apply own_new');focus (first | omega | (simp;done) | (simp;omega))) | (with_reducible apply own_drewN) | (with_reducible apply own_drew) | (with_reducible apply own_alloc) | (with_reducible apply own_setT) | ((with_reducible apply own_set_otherH);focus (first | (simp;done) | (simp;omega))))));intro hO1;have hk1:=hO1.2.1;have hl1:=hO1.1;have hf1:=hO1.2.2;(try simp only [List.setIfInBounds_toArray,List.set_cons_zero,List.set_cons_succ] at hO1 hk1);apply own_step (B:=w.heap.size+1+1) hb;(focus (repeat (first | (with_reducible assumption) | (with_reducible exact own_new _ _ _) | ((with_reducible apply own_new');focus (first | omega | (simp;done) | (simp;omega))) | (with_reducible apply own_drewN) | (with_reducible apply own_drew) | (with_reducible apply own_alloc) | (with_reducible apply own_setT) | ((with_reducible apply own_set_otherH);focus (first | (simp;done) | (simp;omega))))));intro hO2;have hk2:=hO2.2.1;have hl2:=hO2.1;have hf2:=hO2.2.2;(try simp only [List.setIfInBounds_toArray,List.set_cons_zero,List.set_cons_succ] at hO2 hk2);apply own_step (B:=w.heap.size+1+1+1) hb;(focus (repeat (first | (with_reducible assumption) | (with_reducible exact own_new _ _ _) | ((with_reducible apply own_new');focus (first | omega | (simp;done) | (simp;omega))) | (with_reducible apply own_drewN) | (with_reducible apply own_drew) | (with_reducible apply own_alloc) | (with_reducible apply own_setT) | ((with_reducible apply own_set_otherH);focus (first | (simp;done) | (simp;omega))))));intro hO3;have hk3:=hO3.2.1;have hl3:=hO3.1;have hf3:=hO3.2.2;(try simp only [List.setIfInBounds_toArray,List.set_cons_zero,List.set_cons_succ] at hO3 hk3)
        go_wp2_with fail
        go_region_with (first | (go_at_call 80;refine (cut_restX _ s 12 _ hm (by omega) (by omega) ⟨by simp [hk2],by simp [hk2],by simp [hk2],by simp [hf2]⟩).mono ?_;rintro e w1 ⟨rfl,m,rfl⟩))
        all_goals (go_wp2;((try simp only [Exit.inBlock,Exit.then]);refine bodyPost_ret (by simp [results,Tryz.results127,go_sem,hk0,hk3];try rfl) rfl ?_);go_light;exact ⟨ret_v (by rw [HG.out,if_pos HC.out];rfl),by (repeat' (first | (with_reducible exact Below.refl _ _) | (with_reducible refine below_alloc ?_ _) | (with_reducible refine Below.drew ?_) | (with_reducible refine below_drewN ?_ _) | (with_reducible refine Below.setCell ?_ ?_ _) | (with_reducible assumption) | (with_reducible refine below_of ?_ (by assumption)) | omega | (simp only [World.size_alloc,World.size_setCell,World.size_drew,size_drewN] at *;omega) | (simp;omega)))⟩)
      · have hcn:(Head.check (hd s false) != 0)=true:=by simpa using hc
        have HC:=Lib.hid hc
        clear hc
        refine (head_check (hd s false) _).mono ?_
        rintro e w1 ⟨rfl,hb⟩;have hz:=hb.size;(try simp only [World.size_alloc,World.size_setCell,World.size_drew,size_drewN] at hz);apply own_step (B:=w.heap.size) hb;(focus (repeat (first | (with_reducible assumption) | (with_reducible exact own_new _ _ _) | ((with_reducible apply own_new');focus (first | omega | (simp;done) | (simp;omega))) | (with_reducible apply own_drewN) | (with_reducible apply own_drew) | (with_reducible apply own_alloc) | (with_reducible apply own_setT) | ((with_reducible apply own_set_otherH);focus (first | (simp;done) | (simp;omega))))));intro hO0;have hk0:=hO0.2.1;have hl0:=hO0.1;have hf0:=hO0.2.2;(try simp only [List.setIfInBounds_toArray,List.set_cons_zero,List.set_cons_succ] at hO0 hk0);apply own_step (B:=w.heap.size+1) hb;(focus (repeat (first | (with_reducible assumption) | (with_reducible exact own_new _ _ _) | ((with_reducible apply own_new');focus (first | omega | (simp;done) | (simp;omega))) | (with_reducible apply own_drewN) | (with_reducible apply own_drew) | (with_reducible apply own_alloc) | (with_reducible apply own_setT) | ((with_reducible apply own_set_otherH);focus (first | (simp;done) | (simp;omega))))));intro hO1;have hk1:=hO1.2.1;have hl1:=hO1.1;have hf1:=hO1.2.2;(try simp only [List.setIfInBounds_toArray,List.set_cons_zero,List.set_cons_succ] at hO1 hk1)
        go_wp2_with fail
        ((try simp only [Exit.inBlock,Exit.then]);refine bodyPost_ret (by simp [results,Tryz.results127,go_sem,hk0,hk1];try rfl) rfl ?_)
        exact ⟨ret_v (by rw [HG.out,if_neg HC.out];rfl),by (repeat' (first | (with_reducible exact Below.refl _ _) | (with_reducible refine below_alloc ?_ _) | (with_reducible refine Below.drew ?_) | (with_reducible refine below_drewN ?_ _) | (with_reducible refine Below.setCell ?_ ?_ _) | (with_reducible assumption) | (with_reducible refine below_of ?_ (by assumption)) | omega | (simp only [World.size_alloc,World.size_setCell,World.size_drew,size_drewN] at *;omega) | (simp;omega)))⟩
    · have h32:((nu s 8 9:Int) / 32 != 0)=true:=by simp;omega
      have hg:get s=(hnone,⟨#[]⟩,4):=by simp only [get,if_neg hn12,if_neg hlong,if_neg hsp]
      have HG:=Lib.hid hg
      clear hg hlong hsp
      refine (cut_numX _ s 8 1 _ hm (by omega) (by omega) (by omega) (by omega) ⟨by simp [go_sem],by simp [go_sem],by simp [go_sem],by simp [go_sem]⟩).mono ?_
      rw [show Oct.val (s.extract ((8:Int)).toNat ((8:Int)+1).toNat).data.toList=nu s 8 9 from rfl]
      rintro e w1 ⟨rfl,m,rfl⟩
      go_wp2_with fail
      go_returns
      exact ⟨ret_v (by rw [HG.out];rfl),by (repeat' (first | (with_reducible exact Below.refl _ _) | (with_reducible refine below_alloc ?_ _) | (with_reducible refine Below.drew ?_) | (with_reducible refine below_drewN ?_ _) | (with_reducible refine Below.setCell ?_ ?_ _) | (with_reducible assumption) | (with_reducible refine below_of ?_ (by assumption)) | omega | (simp only [World.size_alloc,World.size_setCell,World.size_drew,size_drewN] at *;omega) | (simp;omega)))⟩
theorem ref09_acks (k:Int) (w:World):Calls Tryz.prog 84 #[.int .i64 k] w fun e w'=>e = .returned (.bool (Head.acks k))∧w=w':=by
  go_enter Tryz.func84,Tryz.ntmps84
  go_wp2
  all_goals (go_returns;go_light)
  all_goals exact ⟨ret_b (by (first | rfl | (rw [Bool.eq_iff_iff];simp [Head.acks];done) | (rw [Bool.eq_iff_iff];simp [Head.acks];omega))),rfl⟩
theorem ref09_bears (k:Int) (w:World):Calls Tryz.prog 136 #[.int .i64 k] w fun e w'=>e = .returned (.bool (Head.bears k))∧w=w':=by
  go_enter Tryz.func136,Tryz.ntmps136
  go_wp2
  all_goals (go_returns;go_light)
  all_goals exact ⟨ret_b (by (first | rfl | (rw [Bool.eq_iff_iff];simp [Head.bears];done) | (rw [Bool.eq_iff_iff];simp [Head.bears];omega))),rfl⟩
theorem ref09_off (n m:Int) (w:World):Calls Tryz.prog 165 #[.int .i64 n,.int .i64 m] w fun e w'=>e = .returned (.bool (!decide (0≤n∧n < m)))∧w=w':=by
  go_enter Tryz.func165,Tryz.ntmps165
  go_wp2
  all_goals (go_returns;go_light)
  all_goals exact ⟨ret_b (by (first | rfl | (rw [Bool.eq_iff_iff];simp [decide_eq_true_eq];done) | (rw [Bool.eq_iff_iff];simp [decide_eq_true_eq];omega))),rfl⟩
set_option maxHeartbeats 1000000 in
theorem ref09_size (k:Int) (long:Bool) (w:World):Calls Tryz.prog 164 #[.int .i64 k,.bool long] w fun e w'=>e = .returned (.int .i64 (Head.size k long))∧w=w':=by
  go_enter Tryz.func164,Tryz.ntmps164
  go_wp2_with (go_at_call 84;refine (ref09_acks _ _).mono ?_;rintro e w1 ⟨rfl,rfl⟩)
  all_goals (go_returns;go_light)
  all_goals refine ⟨ret_i ?_,rfl⟩
  all_goals simp only [Head.size,Head.known,Head.acks,Head.more,Head.brief,Bool.false_eq_true,↓reduceIte,decide_eq_true_eq,decide_eq_false_iff_not,Bool.true_eq_false,true_and,false_and,or_false,beq_iff_eq,beq_eq_false_iff_ne,ne_eq,Bool.not_eq_true] at *
  all_goals (repeat' split)
  all_goals first | rfl | omega | (simp_all;done) | (simp_all;omega) | skip
end Go.Proofs.YthacfgaacleaeaaGreatDoor
namespace Go.Proofs.YthacfgaacleaeaaGreatDoor
open Go.IntKind (i64 u32)
theorem val_foldl (l:List UInt8):∀ a,l.foldl (fun n b=>256 * n+b.toNat) a=a * 256 ^ l.length+Oct.val l:=by
  unfold Oct.val
  induction l with
  | nil=>intro a;simp
  | cons x l ih =>
    intro a
    simp only [List.foldl_cons,List.length_cons]
    rw [ih (256 * a+x.toNat),ih (256 * 0+x.toNat),Nat.pow_succ]
    simp only [Nat.mul_zero,Nat.zero_add]
    rw [Nat.add_mul,Nat.mul_comm 256 a,Nat.mul_assoc,Nat.mul_comm 256,Nat.add_assoc]
theorem val_cons (x:UInt8) (l:List UInt8):Oct.val (x :: l)=x.toNat * 256 ^ l.length+Oct.val l:=by
  have:=val_foldl l (256 * 0+x.toNat)
  simp only [Nat.mul_zero,Nat.zero_add] at this
  show List.foldl _ (256 * 0+x.toNat) l=_
  simpa using this
end Go.Proofs.YthacfgaacleaeaaGreatDoor
namespace Go.Proofs.YthacfgaacleaeaaGreatDoor
open Go.IntKind (i64 u32)
open Go.RowKit Sym
def tHeadAcks:List Value→Option (List Prop×Value) | [.int .i64 k]=>some ([],.bool (Head.acks k)) | _=>none
def tHeadBears:List Value→Option (List Prop×Value) | [.int .i64 k]=>some ([],.bool (Head.bears k)) | _=>none
def tHeadSize:List Value→Option (List Prop×Value) | [.int .i64 k,.bool b]=>some ([],.int .i64 (Head.size k b)) | _=>none
def tHeadCheck:List Value→Option (List Prop×Value) | [.agg ⟨[.int .i64 a,.int .i64 b,.int .i64 c,.int .i64 d,.int .i64 e,.int .i64 f,.int .i64 g,.bool h,.int .i64 i]⟩]=>some ([],.int .i64 (Head.check ⟨a,b,c,d,e,f,g,h,i⟩)) | _=>none
def tRefOff:List Value→Option (List Prop×Value) | [.int .i64 n,.int .i64 m]=>some ([],.bool (!decide (0≤n∧n < m))) | _=>none
def putB (h:Head.H):ByteArray:=if Head.check h=0 then ⟨(Head.put h).toArray⟩ else ⟨#[]⟩
def tHeadPut:List Value→Option (List Prop×Value) | [.agg ⟨[.int .i64 a,.int .i64 b,.int .i64 c,.int .i64 d,.int .i64 e,.int .i64 f,.int .i64 g,.bool h,.int .i64 i]⟩]=>some ([],.tuple #[.string (putB ⟨a,b,c,d,e,f,g,h,i⟩),.int .i64 (Head.check ⟨a,b,c,d,e,f,g,h,i⟩)]) | _=>none
def tHeadGet:List Value→Option (List Prop×Value) | [.string s]=>some ([s.size≤maxLen],.tuple #[(get s).1.v,.string (get s).2.1,.int .i64 (get s).2.2]) | _=>none
theorem head_put_tab (h:Head.H) (w:World):Calls Tryz.prog 60 #[h.v] w fun e w'=>e = .returned (.tuple #[.string (putB h),.int .i64 (Head.check h)])∧Below w.heap.size w w':=by
  by_cases hc:Head.check h=0
  · simp only [putB,if_pos hc];rw [hc];exact head_put_ok _ _ _ _ _ _ _ _ _ w hc
  · simp only [putB,if_neg hc];exact head_put_no h w hc
theorem head_get_tab (s:ByteArray) (hm:s.size≤maxLen) (w:World):Calls Tryz.prog 127 #[.string s] w fun e w'=>e = .returned (.tuple #[(get s).1.v,.string (get s).2.1,.int .i64 (get s).2.2])∧Below w.heap.size w w':=by
  by_cases h12:s.size < 12
  · have:=head_get_short s w h12
    have e:get s=(hnone,⟨#[]⟩,1):=by unfold get;rw [if_pos h12]
    rw [e];exact this
  · exact head_get_long s w (by omega) hm
def SHead  : Tab:=addS 52 tOctPut <| addS 126 tRef01Put <| addS 97 tRef01Of <| addS 139 tOctOf <| addS 112 tHeadAcks <| addS 131 tHeadBears <| addS 106 tHeadSize <| addS 103 tHeadCheck <| addS 60 tHeadPut <| addS 127 tHeadGet <| addS 84 tHeadAcks <| addS 136 tHeadBears <| addS 164 tHeadSize <| addS 165 tRefOff <| noS
theorem SHead_ok:TabOk Tryz.prog (SHead):=by
  refine addS_ok (addS_ok (addS_ok (addS_ok (addS_ok (addS_ok (addS_ok (addS_ok (addS_ok (addS_ok (addS_ok (addS_ok (addS_ok (addS_ok (noS_ok) (by kernel_rfl) ?_) (by kernel_rfl) ?_) (by kernel_rfl) ?_) (by kernel_rfl) ?_) (by kernel_rfl) ?_) (by kernel_rfl) ?_) (by kernel_rfl) ?_) (by kernel_rfl) ?_) (by kernel_rfl) ?_) (by kernel_rfl) ?_) (by kernel_rfl) ?_) (by kernel_rfl) ?_) (by kernel_rfl) ?_) (by kernel_rfl) ?_
  · (intro xs p v h hp w;unfold tRefOff at h;(split at h) <;> first | (cases h;done) | (simp only [Option.some.injEq,Prod.mk.injEq] at h;obtain ⟨rfl,rfl⟩:=h;exact of_same (ref09_off _ _ w)))
  · (intro xs p v h hp w;unfold tHeadSize at h;(split at h) <;> first | (cases h;done) | (simp only [Option.some.injEq,Prod.mk.injEq] at h;obtain ⟨rfl,rfl⟩:=h;exact of_same (ref09_size _ _ w)))
  · (intro xs p v h hp w;unfold tHeadBears at h;(split at h) <;> first | (cases h;done) | (simp only [Option.some.injEq,Prod.mk.injEq] at h;obtain ⟨rfl,rfl⟩:=h;exact of_same (ref09_bears _ w)))
  · (intro xs p v h hp w;unfold tHeadAcks at h;(split at h) <;> first | (cases h;done) | (simp only [Option.some.injEq,Prod.mk.injEq] at h;obtain ⟨rfl,rfl⟩:=h;exact of_same (ref09_acks _ w)))
  · (intro xs p v h hp w;unfold tHeadGet at h;(split at h) <;> first | (cases h;done) | (simp only [Option.some.injEq,Prod.mk.injEq] at h;obtain ⟨rfl,rfl⟩:=h;exact head_get_tab _ (hp _ (List.mem_cons_self ..)) w))
  · (intro xs p v h hp w;unfold tHeadPut at h;(split at h) <;> first | (cases h;done) | (simp only [Option.some.injEq,Prod.mk.injEq] at h;obtain ⟨rfl,rfl⟩:=h;exact head_put_tab _ w))
  · (intro xs p v h hp w;unfold tHeadCheck at h;(split at h) <;> first | (cases h;done) | (simp only [Option.some.injEq,Prod.mk.injEq] at h;obtain ⟨rfl,rfl⟩:=h;exact head_check _ w))
  · (intro xs p v h hp w;unfold tHeadSize at h;(split at h) <;> first | (cases h;done) | (simp only [Option.some.injEq,Prod.mk.injEq] at h;obtain ⟨rfl,rfl⟩:=h;exact head_size _ _ w))
  · (intro xs p v h hp w;unfold tHeadBears at h;(split at h) <;> first | (cases h;done) | (simp only [Option.some.injEq,Prod.mk.injEq] at h;obtain ⟨rfl,rfl⟩:=h;exact head_bears _ w))
  · (intro xs p v h hp w;unfold tHeadAcks at h;(split at h) <;> first | (cases h;done) | (simp only [Option.some.injEq,Prod.mk.injEq] at h;obtain ⟨rfl,rfl⟩:=h;exact head_acks _ w))
  · (intro xs p v h hp w;unfold tOctOf at h;(split at h) <;> first | (cases h;done) | (simp only [Option.some.injEq,Prod.mk.injEq] at h;obtain ⟨rfl,rfl⟩:=h;exact of_same (oct_of _ (hp _ (List.mem_cons_self ..)) w)))
  · (intro xs p v h hp w;unfold tRef01Of at h;(split at h) <;> first | (cases h;done) | (simp only [Option.some.injEq,Prod.mk.injEq] at h;obtain ⟨rfl,rfl⟩:=h;exact of_same (ref01_of _ (hp _ (List.mem_cons_self ..)) w)))
  · (intro xs p v h hp w;unfold tRef01Put at h;(split at h) <;> first | (cases h;done) | (simp only [Option.some.injEq,Prod.mk.injEq] at h;obtain ⟨rfl,rfl⟩:=h;exact ref01_put_tab _ _ _ (hp _ (List.mem_cons_self ..)) w))
  · (intro xs p v h hp w;unfold tOctPut at h;(split at h) <;> first | (cases h;done) | (simp only [Option.some.injEq,Prod.mk.injEq] at h;obtain ⟨rfl,rfl⟩:=h;exact oct_put_tab _ _ _ (hp _ (List.mem_cons_self ..)) w))
end Go.Proofs.YthacfgaacleaeaaGreatDoor
namespace Go.Proofs.YthacfgaacleaeaaGreatDoor
open Go.IntKind (i64 u32)
open Go.RowKit Sym
set_option maxRecDepth 100000 in
theorem ref09_check_run (src dst words ccval cover sum kind seq:Int) (long:Bool):runV Tryz.prog (onlyS Tryz.prog SHead) noL Tryz.f132 [.agg #[.int .i64 src,.int .i64 dst,.int .i64 words,.int .i64 ccval,.int .i64 cover,.int .i64 sum,.int .i64 kind,.bool long,.int .i64 seq]] =
 letI q:T Value:=.ite (decide (i64.wrap ((4:Int) * words) < Head.size kind long)) (.leaf (Value.int i64 1)) (.leaf (Value.int i64 0));
 letI q0:T Value:=.leaf (Value.int i64 3);
 letI q2:=(0:Int);
 letI q1:T Value:=.ite (!long) (.ite (!decide (q2≤seq∧seq < (16777216:Int))) q0 q) q;
 letI q3:T Value:=.leaf (Value.int i64 7);
 letI q4:=(65536:Int);
 .ite (decide (kind < q2)) q3 (.ite (decide (kind > (9:Int))) q3 (.ite (decide (Head.size kind long=q2)) (.leaf (Value.int i64 4)) (.ite (!decide (q2≤src∧src < q4)) q0 (.ite (!decide (q2≤dst∧dst < q4)) q0 (.ite (!decide (q2≤sum∧sum < q4)) q0 (.ite (!decide (q2≤ccval∧ccval < (16:Int))) q0 (.ite (!decide (q2≤cover∧cover < (16:Int))) q0 (.ite (!decide (q2≤words∧words < (256:Int))) q0 (.ite long (.ite (!decide (q2≤seq∧seq < (281474976710656:Int))) q0 q1) q1))))))))):=by kernel_rfl
theorem ref09_check (h:Head.H) (w:World):Calls Tryz.prog 132 #[h.v] w fun e w'=>e = .returned (.int .i64 (Head.check h))∧Below w.heap.size w w':=by
  obtain ⟨src,dst,words,ccval,cover,sum,kind,long,seq⟩:=h
  refine calls_runV (onlyS_ok SHead_ok) follows Tryz.func132 (by kernel_rfl) (by kernel_rfl) noL_ok (ref09_check_run src dst words ccval cover sum kind seq long) ?_ w
  have hwr:(0≤words∧words < 256)→i64.wrap (4 * words)=4 * words:=fun h=>IntWalk.i64_in _ (by omega)
  simp only [T.ok,Head.check,Head.wi,Head.most,Head.size,Head.known,Head.brief]
  grind
def SHead2  : Tab:=addS 132 tHeadCheck <| SHead
theorem SHead2_ok:TabOk Tryz.prog (SHead2):=by
  refine addS_ok (SHead_ok) (by kernel_rfl) ?_
  · (intro xs p v h hp w;unfold tHeadCheck at h;(split at h) <;> first | (cases h;done) | (simp only [Option.some.injEq,Prod.mk.injEq] at h;obtain ⟨rfl,rfl⟩:=h;exact ref09_check _ w))
theorem wrap_i64' (n:Int) (h0 : -9223372036854775808≤n) (h1:n < 9223372036854775808):i64.wrap n=n:=IntWalk.i64_in _ (by omega)
def SHead3  : Tab:=SHead2
theorem SHead3_ok:TabOk Tryz.prog (SHead3):=SHead2_ok
set_option maxRecDepth 100000 in
theorem ref09_get_run (s:ByteArray):runV Tryz.prog (onlyS Tryz.prog SHead3) noL Tryz.f82 [.string s] =
 letI p2:=(0:Int);
 letI q7:=(↑s.size:Int);
 letI z6:=(1:Int);
 letI z4:=(2:Int);
 letI z1:=p2≤(5:Int)∧(5:Int) < q7;
 letI z5:=(8:Int);
 letI p5:=p2≤z5∧z5 < q7;
 letI q8:=decide ((byteAt s z5).tmod z4=z6);
 letI p9:=(9:Int);
 letI p6:=(16:Int);
 letI y3:=(256:Int);
 letI q4:=i64.wrap (i64.wrap (i64.wrap (byteAt s p2) * y3)+i64.wrap (byteAt s z6));
 letI q5:=i64.wrap (i64.wrap (i64.wrap (byteAt s z4) * y3)+i64.wrap (byteAt s (3:Int)));
 letI p3:=i64.wrap (byteAt s (4:Int));
 letI q9:=i64.wrap (byteAt s (5:Int));
 letI p4:=i64.wrap (q9.tdiv p6);
 letI y:=q9.tmod p6;
 letI q6:=i64.wrap (i64.wrap (i64.wrap (byteAt s (6:Int)) * y3)+i64.wrap (byteAt s (7:Int)));
 letI p:=i64.wrap ((i64.wrap (byteAt s z5)).tdiv z4);
 letI z:=i64.wrap (valU (s.extract 9 16));
 letI q1:=Head.H.mk q4 q5 p3 p4 y q6 p q8 z;
 letI p1:=Value.int i64 0;
 letI q0:=Value.agg (Array.mk [p1,p1,p1,p1,p1,p1,p1,Value.bool false,p1]);
 letI p0:=Value.string (ByteArray.mk (Array.mk []));
 letI z7:=Value.int i64 q4;
 letI z8:=Value.int i64 q5;
 letI z9:=Value.int i64 p3;
 letI y0:=Value.int i64 p4;
 letI z3:=Value.int i64 y;
 letI y1:=Value.int i64 q6;
 letI y2:=Value.int i64 p;
 letI z2:=(12:Int);
 letI z0:=i64.wrap (valU (s.extract 9 12));
 letI q2:=Head.H.mk q4 q5 p3 p4 y q6 p q8 z0;
 letI q:T Value:=.need (p2≤p2∧p2 < q7) (.need (p2≤z6∧z6 < q7) (.need (p2≤z4∧z4 < q7) (.need (p2≤(3:Int)∧(3:Int) < q7) (.need (p2≤(4:Int)∧(4:Int) < q7) (.need z1 (.need z1 (.need (p2≤(6:Int)∧(6:Int) < q7) (.need (p2≤(7:Int)∧(7:Int) < q7) (.need p5 (.ite q8 (.need (p2≤p9∧p9≤p6∧p6≤q7) (.need ((s.extract 9 16).size≤9223372036854775807) (.ite (!decide (Head.check q1=p2)) (.leaf (Value.tuple (Array.mk [q0,p0,Value.int i64 (Head.check q1)]))) (.need (p2≤p6∧p6≤q7∧q7≤q7) (.leaf (Value.tuple (Array.mk [Value.agg (Array.mk [z7,z8,z9,y0,z3,y1,y2,Value.bool q8,Value.int i64 z]),Value.string (s.extract 16 q7.toNat),p1]))))))) (.need (p2≤p9∧p9≤z2∧z2≤q7) (.need ((s.extract 9 12).size≤9223372036854775807) (.ite (!decide (Head.check q2=p2)) (.leaf (Value.tuple (Array.mk [q0,p0,Value.int i64 (Head.check q2)]))) (.need (p2≤z2∧z2≤q7∧q7≤q7) (.leaf (Value.tuple (Array.mk [Value.agg (Array.mk [z7,z8,z9,y0,z3,y1,y2,Value.bool q8,Value.int i64 z0]),Value.string (s.extract 12 q7.toNat),p1])))))))))))))))));
 letI p8:T Value:=.leaf (Value.tuple (Array.mk [q0,p0,Value.int i64 4]));
 letI q3:T Value:=.need p5 (.need p5 (.ite (decide (byteAt s z5 ≥ (32:Int))) p8 (.ite q8 (.need (p2≤p9∧p9 < q7) (.ite (!decide (byteAt s p9=p2)) p8 q)) q)));
 letI p7:T Value:=.leaf (Value.tuple (Array.mk [q0,p0,Value.int i64 1]));
 .ite (decide (q7 < z2)) p7 (.need p5 (.ite q8 (.ite (decide (q7 < p6)) p7 q3) q3)):=by kernel_rfl
theorem nu_step (s:ByteArray) (a b:Nat) (ha:a < b) (hb:b≤s.size):(nu s a b:Int)=byteAt s a * (256 ^ (b - a - 1):Nat)+nu s (a+1) b:=by
  have hl:s.data.toList.length=s.size:=by simp
  have e1:(s.extract a b).data.toList=s.data.toList[a]'(by omega) :: (s.extract (a+1) b).data.toList:=by
    have h1:∀ c,(s.extract c b).data.toList=(s.data.toList.take b).drop c:=by
      intro c;simp [List.drop_take]
    rw [h1,h1,List.drop_eq_getElem_cons (by rw [List.length_take];omega)]
    simp
  unfold nu byteAt
  rw [e1,val_cons]
  have h2:(s.extract (a+1) b).data.toList.length=b - a - 1:=by simp;omega
  rw [h2,Int.toNat_natCast,List.getD_eq_getElem?_getD,List.getElem?_eq_getElem (by omega)]
  simp only [Option.getD_some]
  rw [Int.natCast_add,Int.natCast_mul]
theorem nu_nil (s:ByteArray) (a:Nat):nu s a a=0:=by
  have:(s.extract a a).data.toList=[]:=by simp
  unfold nu;rw [this];rfl
theorem nu_one (s:ByteArray) (a:Nat) (hb:a+1≤s.size):(nu s a (a+1):Int)=byteAt s a:=by
  rw [nu_step s a (a+1) (by omega) hb,nu_nil];simp
theorem nu_two (s:ByteArray) (a:Nat) (hb:a+2≤s.size):(nu s a (a+2):Int)=byteAt s a * 256+byteAt s (a+1:Nat):=by
  rw [nu_step s a (a+2) (by omega) hb,nu_one s (a+1) hb];simp
theorem byteAt_bd (s:ByteArray) (i:Int):0≤byteAt s i∧byteAt s i < 256:=by
  unfold byteAt
  have:=(s.data.toList.getD i.toNat 0).toNat_lt
  omega
theorem valU_nu (s:ByteArray) (a b:Nat) (h:b≤a+7):valU (s.extract a b)=nu s a b:=by
  unfold valU nu
  have:=Oct.val_small (l:=(s.extract a b).data.toList) (by simp;omega)
  rw [Nat.mod_eq_of_lt (by omega)]
theorem nu_small (s:ByteArray) (a b:Nat) (h:b≤a+7):nu s a b < 72057594037927936:=Oct.val_small (by simp;omega)
theorem ref09_get (s:ByteArray) (hm:s.size≤maxLen) (w:World):Calls Tryz.prog 82 #[.string s] w fun e w'=>e = .returned (.tuple #[(get s).1.v,.string (get s).2.1,.int .i64 (get s).2.2])∧Below w.heap.size w w':=by
  refine calls_runV (onlyS_ok SHead3_ok) follows Tryz.func82 (by kernel_rfl) (by kernel_rfl) noL_ok (ref09_get_run s) ?_ w
  unfold maxLen at hm
  by_cases h12:s.size < 12
  · have e:get s=(hnone,⟨#[]⟩,1):=by unfold get;rw [if_pos h12]
    rw [e]
    have:(s.size:Int) < 12:=by omega
    simp [T.ok,this,hnone]
  · have b := byteAt_bd s
    have b0:=b 0;have b1:=b 1;have b2:=b 2;have b3:=b 3;have b4:=b 4;have b5:=b 5;have b6:=b 6;have b7:=b 7;have b8:=b 8;have b9:=b 9
    have e8:=nu_one s 8 (by omega)
    have e9:=nu_one s 9 (by omega)
    have e5:=nu_one s 5 (by omega)
    have e4:=nu_one s 4 (by omega)
    have e02:=nu_two s 0 (by omega)
    have e24:=nu_two s 2 (by omega)
    have e68:=nu_two s 6 (by omega)
    simp only [show ((8:Nat):Int)=8 from rfl,show ((9:Nat):Int)=9 from rfl,show ((5:Nat):Int)=5 from rfl,show ((4:Nat):Int)=4 from rfl,show ((0:Nat):Int)=0 from rfl,show ((2:Nat):Int)=2 from rfl,show ((6:Nat):Int)=6 from rfl,
      show ((0+1:Nat):Int)=1 from rfl,show ((2+1:Nat):Int)=3 from rfl,show ((6+1:Nat):Int)=7 from rfl,Nat.zero_add,Nat.reduceAdd] at e8 e9 e5 e4 e02 e24 e68
    have v16:=valU_nu s 9 16 (by omega)
    have v12:=valU_nu s 9 12 (by omega)
    have n16:=nu_small s 9 16 (by omega)
    have n12:=nu_small s 9 12 (by omega)
    rw [v16,v12]
    have hh:∀ (long:Bool) (q:Nat),q < 72057594037927936→(⟨i64.wrap (i64.wrap (i64.wrap (byteAt s 0) * 256)+i64.wrap (byteAt s 1)),i64.wrap (i64.wrap (i64.wrap (byteAt s 2) * 256)+i64.wrap (byteAt s 3)),i64.wrap (byteAt s 4),i64.wrap ((i64.wrap (byteAt s 5)).tdiv 16),(i64.wrap (byteAt s 5)).tmod 16,
        i64.wrap (i64.wrap (i64.wrap (byteAt s 6) * 256)+i64.wrap (byteAt s 7)),i64.wrap ((i64.wrap (byteAt s 8)).tdiv 2),long,i64.wrap (q:Int)⟩:Head.H)=⟨nu s 0 2,nu s 2 4,nu s 4 5,(nu s 5 6:Int) / 16,(nu s 5 6:Int) % 16,nu s 6 8,(nu s 8 9:Int) / 2,long,q⟩:=by
      intro long q hq
      have w:∀ i,i64.wrap (byteAt s i)=byteAt s i:=fun i=>by have:=b i;exact wrap_i64' _ (by omega) (by omega)
      have p:∀ i j,i64.wrap (i64.wrap (byteAt s i * 256)+byteAt s j)=byteAt s i * 256+byteAt s j:=fun i j=>by
        have:=b i;have:=b j
        rw [wrap_i64' (byteAt s i * 256) (by omega) (by omega),wrap_i64' _ (by omega) (by omega)]
      simp only [w,p,Int.tdiv_eq_ediv_of_nonneg b5.1,Int.tmod_eq_emod_of_nonneg b5.1,Int.tdiv_eq_ediv_of_nonneg b8.1]
      rw [wrap_i64' (byteAt s 5 / 16) (by omega) (by omega),wrap_i64' (byteAt s 8 / 2) (by omega) (by omega),wrap_i64' (q:Int) (by omega) (by omega),e8,e5,e4,e02,e24,e68]
    have hodd:(byteAt s 8).tmod 2=1 ↔ nu s 8 9 % 2=1:=by rw [Int.tmod_eq_emod_of_nonneg b8.1];omega
    have h32:nu s 8 9 / 32=0 ↔ byteAt s 8 < 32:=by omega
    have hn12:¬ (s.size:Int) < 12:=by omega
    have q16:byteAt s 9=0→16≤s.size→nu s 9 16=nu s 10 16:=by
      intro h0 h16
      have:=nu_step s 9 16 (by omega) h16
      rw [show ((9:Nat):Int)=9 from rfl,h0,show (9+1:Nat)=10 from rfl] at this
      omega
    have hx:∀ a,a≤s.size→(s.extract a s.size).size≤maxLen:=fun a _=>by rw [ByteArray.size_extract];unfold maxLen;omega
    have hk:∀ (long:Bool) (q:Nat),byteAt s 8 < 32→(⟨nu s 0 2,nu s 2 4,nu s 4 5,(nu s 5 6:Int) / 16,(nu s 5 6:Int) % 16,nu s 6 8,(nu s 8 9:Int) / 2,long,q⟩:Head.H)=⟨nu s 0 2,nu s 2 4,nu s 4 5,(nu s 5 6:Int) / 16,(nu s 5 6:Int) % 16,nu s 6 8,(nu s 8 9:Int) / 2 % 16,long,q⟩:=by
      intro long q h
      rw [show (nu s 8 9:Int) / 2 % 16=(nu s 8 9:Int) / 2 by omega]
    by_cases hl:nu s 8 9 % 2=1
    · have d1:decide ((byteAt s 8).tmod 2=1)=true:=by simpa using hodd.2 hl
      by_cases h16:s.size < 16
      · have e:get s=(hnone,⟨#[]⟩,1):=by simp only [get,if_neg h12,if_pos hl,if_pos h16]
        rw [e]
        have:(s.size:Int) < 16:=by omega
        simp [T.ok,this,hn12,hnone,d1]
        omega
      · have hn16:¬ (s.size:Int) < 16:=by omega
        by_cases hsp:nu s 8 9 / 32=0∧nu s 9 10=0
        · have hlt:=h32.1 hsp.1
          have h90:byteAt s 9=0:=by omega
          have hhd:(⟨nu s 0 2,nu s 2 4,nu s 4 5,(nu s 5 6:Int) / 16,(nu s 5 6:Int) % 16,nu s 6 8,(nu s 8 9:Int) / 2,true,(nu s 9 16:Nat)⟩:Head.H)=hd s true:=by rw [hk _ _ hlt,q16 h90 (by omega)];rfl
          have hn32:¬ byteAt s 8 ≥ 32:=by omega
          simp only [d1,hh true (nu s 9 16) n16,hhd]
          have e:get s=if Head.check (hd s true)=0 then (hd s true,s.extract 16 s.size,0) else (hnone,⟨#[]⟩,Head.check (hd s true)):=by simp only [get,if_neg h12,if_pos hl,if_neg h16,if_pos hsp]
          rw [e]
          by_cases hc:Head.check (hd s true)=0
          · have F:=(hh true (nu s 9 16) n16).trans hhd
            have f0:=congrArg Head.H.src F
            have f1:=congrArg Head.H.dst F
            have f2:=congrArg Head.H.words F
            have f3:=congrArg Head.H.ccval F
            have f4:=congrArg Head.H.cover F
            have f5:=congrArg Head.H.sum F
            have f6:=congrArg Head.H.kind F
            have f7:=congrArg Head.H.seq F
            simp only [] at f0 f1 f2 f3 f4 f5 f6 f7
            have fl:(hd s true).long=true:=rfl
            simp only [f0,f1,f2,f3,f4,f5,f6,f7]
            simp [T.ok,hn12,hn16,hn32,h90,hc,maxLen,fl]
            omega
          · simp [T.ok,hn12,hn16,hn32,h90,hc,maxLen,hnone]
            omega
        · have e:get s=(hnone,⟨#[]⟩,4):=by simp only [get,if_neg h12,if_pos hl,if_neg h16,if_neg hsp]
          rw [e]
          simp only [d1,hh true (nu s 9 16) n16]
          by_cases h:byteAt s 8 ≥ 32
          · simp [T.ok,hn12,hn16,h,hnone]
            omega
          · have h9:¬ byteAt s 9=0:=by omega
            simp [T.ok,hn12,hn16,h,h9,hnone]
            omega
    · have d1:decide ((byteAt s 8).tmod 2=1)=false:=by simpa using fun h=>hl (hodd.1 h)
      by_cases hsp:nu s 8 9 / 32=0
      · have hlt:=h32.1 hsp
        have hhd:(⟨nu s 0 2,nu s 2 4,nu s 4 5,(nu s 5 6:Int) / 16,(nu s 5 6:Int) % 16,nu s 6 8,(nu s 8 9:Int) / 2,false,(nu s 9 12:Nat)⟩:Head.H)=hd s false:=by rw [hk _ _ hlt];rfl
        have hn32:¬ byteAt s 8 ≥ 32:=by omega
        simp only [d1,hh false (nu s 9 12) n12,hhd]
        have e:get s=if Head.check (hd s false)=0 then (hd s false,s.extract 12 s.size,0) else (hnone,⟨#[]⟩,Head.check (hd s false)):=by simp only [get,if_neg h12,if_neg hl,if_pos hsp]
        rw [e]
        by_cases hc:Head.check (hd s false)=0
        · have F:=(hh false (nu s 9 12) n12).trans hhd
          have f0:=congrArg Head.H.src F
          have f1:=congrArg Head.H.dst F
          have f2:=congrArg Head.H.words F
          have f3:=congrArg Head.H.ccval F
          have f4:=congrArg Head.H.cover F
          have f5:=congrArg Head.H.sum F
          have f6:=congrArg Head.H.kind F
          have f7:=congrArg Head.H.seq F
          simp only [] at f0 f1 f2 f3 f4 f5 f6 f7
          have fl:(hd s false).long=false:=rfl
          simp only [f0,f1,f2,f3,f4,f5,f6,f7]
          simp [T.ok,hn12,hn32,hc,maxLen,fl]
          omega
        · simp [T.ok,hn12,hn32,hc,maxLen,hnone]
          omega
      · have e:get s=(hnone,⟨#[]⟩,4):=by simp only [get,if_neg h12,if_neg hl,if_neg hsp]
        rw [e]
        simp only [d1,hh false (nu s 9 12) n12]
        have h:byteAt s 8 ≥ 32:=by omega
        simp [T.ok,hn12,h,hnone]
        omega
end Go.Proofs.YthacfgaacleaeaaGreatDoor
namespace Go.Proofs.YthacfgaacleaeaaGreatDoor
open Go.IntKind (i64 u32)
open Go.RowKit
end Go.Proofs.YthacfgaacleaeaaGreatDoor
namespace Go.Proofs.YthacfgaacleaeaaGreatDoor.Inet
open Go.IntKind (i64 u32)
def foldN (n:Int):Int:=if n=0 then 0 else (n - 1) % 65535+1
theorem fold_small {n:Int} (h0:0≤n) (h1:n≤65535):foldN n=n:=by
  unfold foldN
  split <;> omega
theorem fold_step {n:Int} (h:n > 65535):foldN (n % 65536+n / 65536)=foldN n:=by
  unfold foldN
  rw [if_neg (by omega),if_neg (by omega)]
  omega
theorem fold_bd {n:Int} (h:0≤n):0≤foldN n∧foldN n≤65535:=by
  unfold foldN
  split <;> omega
theorem fold_add {a b:Int} (ha:0≤a) (hb:0≤b):foldN (foldN a+b)=foldN (a+b):=by
  unfold foldN
  split
  · rename_i h
    subst h
    simp
  · rw [if_neg (by omega),if_neg (by omega)]
    omega
def tot16:List UInt8→Nat
  | []=>0
  | [x]=>256 * x.toNat
  | x :: y :: l=>256 * x.toNat+y.toNat+tot16 l
theorem tot_bd:∀ l:List UInt8,tot16 l≤65535 * l.length
  | []=>Nat.le_refl _
  | [x]=>by have:=x.toNat_lt;simp only [tot16,List.length_cons,List.length_nil];omega
  | x :: y :: l=>by
    have:=x.toNat_lt;have:=y.toNat_lt;have:=tot_bd l
    simp only [tot16,List.length_cons];omega
theorem tot_append:∀ (l m:List UInt8),l.length % 2=0→tot16 (l++m)=tot16 l+tot16 m
  | [],m,_=>by simp [tot16]
  | [x],m,h=>by simp at h
  | x :: y :: l,m,h=>by
    have:=tot_append l m (by simp at h ⊢;omega)
    simp only [List.cons_append,tot16,this];omega
theorem tot_pad (l:List UInt8):tot16 (l++[0])=tot16 l:=by
  match l with
  | []=>rfl
  | [x]=>rfl
  | x :: y :: l =>
    have:=tot_pad l
    simp only [List.cons_append,tot16,this]
end Go.Proofs.YthacfgaacleaeaaGreatDoor.Inet
namespace Go.Proofs.YthacfgaacleaeaaGreatDoor
open Go.IntKind (i64 u32)
open Go.RowKit Sym Sha Go.ChangeShapes Go.WideShapes Go.ChangeMaps Inet
set_option maxRecDepth 100000 in
theorem fold_run (n:Int):runV Tryz.prog (onlyS Tryz.prog noS) (LUn Tryz.prog (onlyS Tryz.prog noS) Tryz.f159 3) Tryz.f159 [.int .i64 n] =
 letI q1:=(18446744073709551616:Int);
 letI q:=i64.wrap (↑(Nat.bitwise Bool.and (n % q1).toNat 65535):Int)+n.fdiv (65536:Int);
 letI q3:=i64.wrap q;
 letI q0:=i64.wrap (↑(Nat.bitwise Bool.and (i64.wrap q % q1).toNat 65535):Int)+q3.fdiv (65536:Int);
 letI q2:=(65535:Int);
 .ite (decide (n > q2)) (.ite (decide (i64.wrap q > q2)) (.ite (decide (i64.wrap q0 > q2)) (T.stuck 38) (.leaf (Value.int i64 (i64.wrap q0)))) (.leaf (Value.int i64 q3))) (.leaf (Value.int i64 n)):=by kernel_rfl
set_option maxRecDepth 100000 in
theorem pseudo_run (f t z:Int):runV Tryz.prog (onlyS Tryz.prog SOct) noL Tryz.f115 [.int .i64 f,.int .i64 t,.int .i64 z] =
 letI q:=(4:Int);
 letI q0:=Oct.put (ByteArray.mk #[]) f q;
 letI q1:=(2:Int);
 letI q2:=(0:Int);
 letI q3:=(8:Int);
 .need (q2≤q∧q≤q3∧(ByteArray.mk #[]).size≤1099511627776) (.need (q2≤q∧q≤q3∧q0.size≤1099511627776) (.need (q2≤q1∧q1≤q3∧(Oct.put q0 t q).size≤1099511627776) (.need (q2≤q1∧q1≤q3∧(Oct.put (Oct.put q0 t q) (33:Int) q1).size≤1099511627776) (.leaf (Value.string (Oct.put (Oct.put (Oct.put (Oct.put (ByteArray.mk (Array.mk [])) f q) t q) (33:Int) q1) z q1)))))):=by kernel_rfl
set_option maxRecDepth 100000 in
theorem pseudoR_run (f t z:Int):runV Tryz.prog (onlyS Tryz.prog SOct) noL Tryz.f168 [.int .i64 f,.int .i64 t,.int .i64 z] =
 letI q:=(4:Int);
 letI q6:=IntKind.u64.wrap f;
 letI q0:=Oct.put (ByteArray.mk (Array.mk [])) q6 q;
 letI q1:=(18446744073709551616:Int);
 letI q2:=Oct.put (ByteArray.mk #[]) q6 q;
 letI q3:=IntKind.u64.wrap t;
 letI q4:=(0:Int);
 letI q5:=BitVec.ofNat._proof_1 8;
 .need (q4≤IntKind.u64.wrap f∧IntKind.u64.wrap f < q1∧q4≤q∧q≤(8:Int)∧(ByteArray.mk #[]).size≤1099511627776) (.need (q4≤IntKind.u64.wrap t∧IntKind.u64.wrap t < q1∧q4≤q∧q≤(8:Int)∧q2.size≤1099511627776) (.need ((Oct.put q0 q3 q).size+2≤9223372036854775807) (.need (q4≤IntKind.u64.wrap z∧IntKind.u64.wrap z < q1∧q4≤(2:Int)∧(2:Int)≤(8:Int)∧(Oct.put q2 q3 q++ByteArray.mk #[(0:UInt8),(33:UInt8)]).size≤1099511627776) (.leaf (Value.string (Oct.put (Oct.put q0 q3 q++ByteArray.mk (Array.mk [UInt8.ofBitVec (BitVec.ofFin (Fin.mk 0 (Nat.mod_lt 0 q5))),UInt8.ofBitVec (BitVec.ofFin (Fin.mk 33 (Nat.mod_lt 33 q5)))])) (IntKind.u64.wrap z) (2:Int))))))):=by kernel_rfl
set_option maxRecDepth 100000 in
theorem cov_run (h d:ByteArray) (c:Int):runV Tryz.prog (onlyS Tryz.prog noS) noL Tryz.f105 [.string h,.string d,.int .i64 c] =
 letI q:=(4:Int) * i64.wrap (c - (1:Int));
 letI q0:T Value:=.leaf (Value.tuple (Array.mk [Value.string (ByteArray.mk (Array.mk [])),Value.bool false]));
 letI q1:=(↑d.size:Int);
 letI q2:=(0:Int);
 letI q3:=i64.wrap q;
 .ite (decide (c < q2)) q0 (.ite (decide (c > (15:Int))) q0 (.ite (decide (i64.wrap q > q1)) q0 (.ite (decide (c=q2)) (.need (q2≤q2∧q2≤q1∧q1≤q1) (.need (h.size+(d.extract 0 q1.toNat).size≤9223372036854775807) (.leaf (Value.tuple (Array.mk [Value.string (h++d.extract 0 q1.toNat),Value.bool true]))))) (.need (q2≤q2∧q2≤i64.wrap q∧i64.wrap q≤q1) (.need (h.size+(d.extract 0 q3.toNat).size≤9223372036854775807) (.leaf (Value.tuple (Array.mk [Value.string (h++d.extract 0 q3.toNat),Value.bool true])))))))):=by kernel_rfl
set_option maxRecDepth 100000 in
theorem covR_run (h d:ByteArray) (c:Int):runV Tryz.prog (onlyS Tryz.prog noS) noL Tryz.f166 [.string h,.string d,.int .i64 c] =
 letI q:=(4:Int) * i64.wrap (c - (1:Int));
 letI q0:T Value:=.leaf (Value.tuple (Array.mk [Value.string (ByteArray.mk (Array.mk [])),Value.bool false]));
 letI q1:=(0:Int);
 letI q2:=i64.wrap q;
 .ite (decide (c < q1)) q0 (.ite (decide (c > (15:Int))) q0 (.ite (decide (c=q1)) (.need (h.size+d.size≤9223372036854775807) (.leaf (Value.tuple (Array.mk [Value.string (h++d),Value.bool true])))) (.ite (decide (i64.wrap q > (↑d.size:Int))) q0 (.need (q1≤q1∧q1≤i64.wrap q∧i64.wrap q≤(↑d.size:Int)) (.need (h.size+(d.extract 0 q2.toNat).size≤9223372036854775807) (.leaf (Value.tuple (Array.mk [Value.string (h++d.extract 0 q2.toNat),Value.bool true])))))))):=by kernel_rfl
end Go.Proofs.YthacfgaacleaeaaGreatDoor
namespace Go.Proofs.YthacfgaacleaeaaGreatDoor
open Go.IntKind (i64 u32)
open Go.RowKit Sym Sha Go.ChangeShapes Go.WideShapes Go.ChangeMaps Inet
theorem and_low (n:Int) (h0:0≤n) (h1:n < 18446744073709551616):((Nat.bitwise Bool.and (n % 18446744073709551616).toNat 65535:Nat):Int)=n % 65536:=by
  have e:(n % 18446744073709551616).toNat=n.toNat:=by omega
  rw [e]
  have h:Nat.bitwise Bool.and n.toNat 65535=n.toNat % 65536:=Nat.and_two_pow_sub_one_eq_mod n.toNat 16
  rw [h]
  omega
theorem inet_fold (n:Int) (h:0≤n∧n≤131070) (w:World):Calls Tryz.prog 159 #[.int .i64 n] w fun e w'=>e = .returned (.int .i64 (foldN n))∧Below w.heap.size w w':=by
  refine calls_runV (onlyS_ok noS_ok) follows Tryz.func159 (by kernel_rfl) (by kernel_rfl) (one_loop (by kernel_rfl) fun st t h=>by
    rw [addL_same h];exact unroll_ok (onlyS_ok noS_ok) follows (by kernel_rfl) (fun _ _ h=>by revert h;rw [show loopsOf (loopAt Tryz.f159 0)=[] by kernel_rfl];simp) 3 st) (fold_run n) ?_ w
  have e1:=and_low n h.1 (by omega)
  have e2:n.fdiv 65536=n / 65536:=Int.fdiv_eq_ediv_of_nonneg _ (by decide)
  have e3:i64.wrap (n % 65536)=n % 65536:=w64 _ (by omega) (by omega)
  have e4:i64.wrap (n % 65536+n / 65536)=n % 65536+n / 65536:=w64 _ (by omega) (by omega)
  rw [e1,e2,e3,e4]
  refine ⟨fun k=>⟨fun k2=>?_,fun k2=>?_⟩,fun k=>?_⟩
  · have k:=of_decide_eq_true k
    have k2:=of_decide_eq_true k2
    omega
  · have k:=of_decide_eq_true k
    show Value.int .i64 (n % 65536+n / 65536)=Value.int .i64 (foldN n)
    rw [← fold_step k,fold_small (by omega) (by omega)]
  · have k:=of_decide_eq_false k
    show Value.int .i64 n=Value.int .i64 (foldN n)
    rw [fold_small h.1 (by omega)]
def pseuB (f t z:Int):ByteArray:=Oct.put (Oct.put (Oct.put (Oct.put ⟨⟨[]⟩⟩ f 4) t 4) 33 2) z 2
theorem put33 (s:ByteArray):Oct.put s 33 2=s++⟨#[0,33]⟩:=by
  apply ByteArray.ext
  rw [ByteArray.data_append]
  unfold Oct.put
  apply Array.ext'
  simp
  rfl
theorem pseuB_size (f t z:Int):(pseuB f t z).size=12:=by unfold pseuB;rw [Oct.put_size,Oct.put_size,Oct.put_size,Oct.put_size];rfl
theorem inet_Pseudo (f t z:Int) (w:World):Calls Tryz.prog 115 #[.int .i64 f,.int .i64 t,.int .i64 z] w fun e w'=>e = .returned (.string (pseuB f t z))∧Below w.heap.size w w':=by
  refine calls_runV (onlyS_ok SOct_ok) follows Tryz.func115 (by kernel_rfl) (by kernel_rfl) noL_ok (pseudo_run f t z) ?_ w
  have z1:(Oct.put ⟨⟨[]⟩⟩ f 4).size=4:=by rw [Oct.put_size];rfl
  have z2:(Oct.put (Oct.put ⟨⟨[]⟩⟩ f 4) t 4).size=8:=by rw [Oct.put_size,z1];rfl
  have z3:(Oct.put (Oct.put (Oct.put ⟨⟨[]⟩⟩ f 4) t 4) 33 2).size=10:=by rw [Oct.put_size,z2];rfl
  refine ⟨⟨by decide,by decide,by decide⟩,⟨by decide,by decide,?_⟩,⟨by decide,by decide,?_⟩,⟨by decide,by decide,?_⟩,rfl⟩
  · show (Oct.put ⟨⟨[]⟩⟩ f 4).size≤_
    rw [z1];decide
  · show (Oct.put (Oct.put ⟨⟨[]⟩⟩ f 4) t 4).size≤_
    rw [z2];decide
  · show (Oct.put (Oct.put (Oct.put ⟨⟨[]⟩⟩ f 4) t 4) 33 2).size≤_
    rw [z3];decide
theorem ref04_Pseudo (f t z:Int) (w:World):Calls Tryz.prog 168 #[.int .i64 f,.int .i64 t,.int .i64 z] w fun e w'=>e = .returned (.string (pseuB f t z))∧Below w.heap.size w w':=by
  refine calls_runV (onlyS_ok SOct_ok) follows Tryz.func168 (by kernel_rfl) (by kernel_rfl) noL_ok (pseudoR_run f t z) ?_ w
  have z1:(Oct.put ⟨⟨[]⟩⟩ f 4).size=4:=by rw [Oct.put_size];rfl
  have z2:(Oct.put (Oct.put ⟨⟨[]⟩⟩ f 4) t 4).size=8:=by rw [Oct.put_size,z1];rfl
  have z3:(Oct.put (Oct.put ⟨⟨[]⟩⟩ f 4) t 4++⟨#[0,33]⟩).size=10:=by rw [ByteArray.size_append,z2];rfl
  have uf:=u64_range f
  have ut:=u64_range t
  have uz:=u64_range z
  simp only [put_u64]
  refine ⟨⟨uf.1,uf.2,by decide,by decide,by decide⟩,⟨ut.1,ut.2,by decide,by decide,?_⟩,?_,⟨uz.1,uz.2,by decide,by decide,?_⟩,?_⟩
  · show (Oct.put ⟨⟨[]⟩⟩ f 4).size≤_
    rw [z1];decide
  · show (Oct.put (Oct.put ⟨⟨[]⟩⟩ f 4) t 4).size+2≤_
    rw [z2];decide
  · show (Oct.put (Oct.put ⟨⟨[]⟩⟩ f 4) t 4++⟨#[0,33]⟩).size≤_
    rw [z3];decide
  · show Value.string (Oct.put (Oct.put (Oct.put ⟨⟨[]⟩⟩ f 4) t 4++⟨#[0,33]⟩) z 2)=Value.string (pseuB f t z)
    unfold pseuB
    rw [put33]
def covOk (d:ByteArray) (c:Int):Bool:=decide (0≤c∧c≤15∧(c=0 ∨ 4 * (c - 1)≤d.size))
def covB (h d:ByteArray) (c:Int):ByteArray:=if covOk d c=true then (if c=0 then h++d else h++d.extract 0 (4 * (c - 1)).toNat) else ⟨⟨[]⟩⟩
end Go.Proofs.YthacfgaacleaeaaGreatDoor
namespace Go.Proofs.YthacfgaacleaeaaGreatDoor
open Go.IntKind (i64 u32)
open Go.RowKit Sym Go.ChangeShapes Go.WideShapes Go.ChangeMaps Inet
structure Pk where
  kind:Int
  long:Bool
  src:Int
  dst:Int
  ccval:Int
  cover:Int
  seq:Int
  ack:Int
  service:Int
  code:Int
  detail:Int
  data:ByteArray
def Pk.v (p:Pk) (o:Value):Value:=.agg #[.int .i64 p.kind,.bool p.long,.int .i64 p.src,.int .i64 p.dst,.int .i64 p.ccval,.int .i64 p.cover,.int .i64 p.seq,.int .i64 p.ack,.int .i64 p.service,.int .i64 p.code,.int .i64 p.detail,o,.string p.data]
abbrev Pk.s (p:Pk) (o:SV):SV:=.agg [.v (.int .i64 p.kind),.v (.bool p.long),.v (.int .i64 p.src),.v (.int .i64 p.dst),.v (.int .i64 p.ccval),.v (.int .i64 p.cover),.v (.int .i64 p.seq),.v (.int .i64 p.ack),.v (.int .i64 p.service),.v (.int .i64 p.code),.v (.int .i64 p.detail),o,.v (.string p.data)]
theorem Pk.s_to (p:Pk) {B:List Value} {o:SV} {u:Value} (h:o.to B=some u):(p.s o).to B=some (p.v u):=by
  simp [Pk.s,Pk.v,SV.to,SV.tos,h]
def sInt:SV→Option Int | .v (.int .i64 z)=>some z | _=>none
def sBool:SV→Option Bool | .v (.bool b)=>some b | _=>none
def sStr:SV→Option ByteArray | .v (.string b)=>some b | _=>none
theorem sInt_ok {s:SV} {z:Int} (h:sInt s=some z):s = .v (.int .i64 z):=by
  unfold sInt at h
  split at h
  · simp only [Option.some.injEq] at h;subst h;rfl
  · cases h
theorem sBool_ok {s:SV} {z:Bool} (h:sBool s=some z):s = .v (.bool z):=by
  unfold sBool at h
  split at h
  · simp only [Option.some.injEq] at h;subst h;rfl
  · cases h
theorem sStr_ok {s:SV} {z:ByteArray} (h:sStr s=some z):s = .v (.string z):=by
  unfold sStr at h
  split at h
  · simp only [Option.some.injEq] at h;subst h;rfl
  · cases h
def pkOf:List SV→Option (Pk×SV)
  | [a,b,c,d,e,f,g,h,i,j,k,o,m]=>(sInt a).bind fun a=>(sBool b).bind fun b=>(sInt c).bind fun c=>(sInt d).bind fun d=>(sInt e).bind fun e=>(sInt f).bind fun f=>(sInt g).bind fun g=>(sInt h).bind fun h=>(sInt i).bind fun i=>(sInt j).bind fun j=>(sInt k).bind fun k=>(sStr m).bind fun m=>some (⟨a,b,c,d,e,f,g,h,i,j,k,m⟩,o)
  | _=>none
theorem pkOf_ok {l:List SV} {p:Pk} {o:SV} (h:pkOf l=some (p,o)):SV.agg l=p.s o:=by
  unfold pkOf at h
  split at h
  · simp only [Option.bind_eq_some_iff,Option.some.injEq,Prod.mk.injEq] at h
    obtain ⟨a,ha,b,hb,c,hc,d,hd,e,he,f,hf,g,hg,h,hh,i,hi,j,hj,k,hk,m,hm,rfl,rfl⟩:=h
    rw [sInt_ok ha,sBool_ok hb,sInt_ok hc,sInt_ok hd,sInt_ok he,sInt_ok hf,sInt_ok hg,sInt_ok hh,sInt_ok hi,sInt_ok hj,sInt_ok hk,sStr_ok hm]
  · cases h
def pkIn (H:List Blk) (s:SV):Option (Pk×Nat×(Nat→Nat→Value)):=(aggOf s).bind fun l=>(pkOf l).bind fun r=>(rowIn 2 H r.2).bind fun q=>some (r.1,q.1,q.2)
theorem pkIn_ok {w0:World} {bs:List Nat} {H:List Blk} {B:List Value} {w:World} (hm:Mem w0 bs H B w) {s:SV} {u:Value} (hs:s.to B=some u) {p:Pk} {n:Nat} {f:Nat→Nat→Value} (h:pkIn H s=some (p,n,f)) :
    ∃ o,u=p.v o∧∀ B',BlkSat B' w o (.row n 2 f):=by
  unfold pkIn at h
  simp only [Option.bind_eq_some_iff,Option.some.injEq,Prod.mk.injEq] at h
  obtain ⟨l,hl,⟨p',so⟩,hp,⟨n',f'⟩,hr,rfl,rfl,rfl⟩:=h
  obtain ⟨vs,hv,rfl⟩:=aggOf_ok hs hl
  have e:=pkOf_ok hp
  simp only [Pk.s,SV.agg.injEq] at e
  subst e
  obtain ⟨x0,r0,e0,v0,rfl⟩:=tos_cons hv
  obtain ⟨x1,r1,e1,v1,rfl⟩:=tos_cons v0
  obtain ⟨x2,r2,e2,v2,rfl⟩:=tos_cons v1
  obtain ⟨x3,r3,e3,v3,rfl⟩:=tos_cons v2
  obtain ⟨x4,r4,e4,v4,rfl⟩:=tos_cons v3
  obtain ⟨x5,r5,e5,v5,rfl⟩:=tos_cons v4
  obtain ⟨x6,r6,e6,v6,rfl⟩:=tos_cons v5
  obtain ⟨x7,r7,e7,v7,rfl⟩:=tos_cons v6
  obtain ⟨x8,r8,e8,v8,rfl⟩:=tos_cons v7
  obtain ⟨x9,r9,e9,v9,rfl⟩:=tos_cons v8
  obtain ⟨x10,r10,e10,v10,rfl⟩:=tos_cons v9
  obtain ⟨x11,r11,e11,v11,rfl⟩:=tos_cons v10
  obtain ⟨x12,r12,e12,v12,rfl⟩:=tos_cons v11
  obtain rfl:=tos_nil v12
  simp only [SV.to,Option.some.injEq] at e0 e1 e2 e3 e4 e5 e6 e7 e8 e9 e10 e12
  subst e0 e1 e2 e3 e4 e5 e6 e7 e8 e9 e10 e12
  exact ⟨x11,rfl,rowIn_ok hm e11 hr⟩
def rdP (pp:Pk→Nat→(Nat→Nat→Value)→Prop) (r:Pk→Nat→(Nat→Nat→Value)→Value):List SV→List Blk→Option (List Prop×Value)
  | [s],H=>(pkIn H s).bind fun q=>some ([pp q.1 q.2.1 q.2.2],r q.1 q.2.1 q.2.2)
  | _,_=>none
theorem rdP_ok {P:Program} {k:FuncId} {pp:Pk→Nat→(Nat→Nat→Value)→Prop} {r:Pk→Nat→(Nat→Nat→Value)→Value} (hc:∀ (p:Pk) (n:Nat) (fr:Nat→Nat→Value) (o:Value) (w:World),(∀ B,BlkSat B w o (.row n 2 fr))→pp p n fr→Calls P k #[p.v o] w fun e w'=>e = .returned (r p n fr)∧Below w.heap.size w w'):ReadOk P k (rdP pp r):=by
  intro ss H q v h bs B w vs hm hv hp
  unfold rdP at h
  split at h
  · simp only [Option.bind_eq_some_iff,Option.some.injEq,Prod.mk.injEq] at h
    obtain ⟨⟨p,n,f⟩,hr,rfl,rfl⟩:=h
    obtain ⟨x0,r0,e0,v0,rfl⟩:=tos_cons hv
    obtain rfl:=tos_nil v0
    obtain ⟨o,rfl,hb⟩:=pkIn_ok hm e0 hr
    exact hc p n f o w hb (hp _ (List.mem_cons_self ..))
  · cases h
def wn (n below:Int):Bool:=decide (0≤n∧n < below)
def served (k:Int):Bool:=decide (k=0 ∨ k=1)
def numP (p:Pk):Bool:=!(Head.acks p.kind && !wn p.ack (Head.most p.long) || served p.kind && !wn p.service 4294967296) && (!decide (p.kind=7) || wn p.code 256 && wn p.detail 16777216)
def spareP (p:Pk):Bool:=(!Head.acks p.kind && !decide (p.ack=0)) || (!served p.kind && !decide (p.service=0)) || (!decide (p.kind=7) && (!decide (p.code=0) || !decide (p.detail=0))) || (!Head.bears p.kind && !decide (p.data.size=0))
def wordsP (p:Pk) (n:Nat) (g:Nat→Op):Int:=min ((Head.size p.kind p.long+sizeL g n+3) / 4) 255
def begH (p:Pk) (n:Nat) (g:Nat→Op) (sum:Int):Head.H:=⟨p.src,p.dst,wordsP p n g,p.ccval,p.cover,sum,p.kind,p.long,p.seq⟩
def chkP (p:Pk) (n:Nat) (g:Nat→Op):Int :=
  if Head.check (begH p n g 0)=0 then
    if numP p=true then
      if chkO n g=0 then
        if p.data.size > 200 then 11 else if spareP p=true then 4 else if covOk p.data p.cover=true then 0 else 3
      else chkO n g
    else 3
  else Head.check (begH p n g 0)
end Go.Proofs.YthacfgaacleaeaaGreatDoor
namespace Go.Proofs.YthacfgaacleaeaaGreatDoor
open Go.IntKind (i64 u32)
open Go.RowKit Sym
def bytesO (o:Op):List UInt8:=UInt8.ofNat o.kind.toNat :: (if o.kind≤31 then [] else UInt8.ofNat (o.val.size+2) :: o.val.data.toList)
def optL (g:Nat→Op):Nat→List UInt8
  | 0=>[]
  | i+1=>optL g i++bytesO (g i)
def padN (n:Nat):Nat:=(4 - n % 4) % 4
def optP (n:Nat) (g:Nat→Op):List UInt8:=optL g n++List.replicate (padN (optL g n).length) 0
def kindR (s:ByteArray) (a:Nat):Int:=byteAt s a
def manyR (s:ByteArray) (a:Nat):Int:=byteAt s (a+1:Nat)
def pos1 (s:ByteArray) (a:Nat):Nat:=if kindR s a < 32 then a+1 else a+(manyR s a).toNat
def acc1 (s:ByteArray) (a:Nat):List Op:=if kindR s a < 32 then (if kindR s a > 0 then [⟨kindR s a,⟨⟨[]⟩⟩⟩] else []) else [⟨kindR s a,s.extract (a+2) (a+(manyR s a).toNat)⟩]
def err1 (s:ByteArray) (a:Nat):Int:=if kindR s a < 32 then 0 else if s.size≤a+1 then 1 else if manyR s a < 2 then 4 else if (s.size:Int) < a+manyR s a then 1 else 0
def posR (s:ByteArray):Nat→Nat
  | 0=>0
  | i+1=>pos1 s (posR s i)
def accR (s:ByteArray):Nat→List Op
  | 0=>[]
  | i+1=>accR s i++acc1 s (posR s i)
def stopR (s:ByteArray) (i:Nat):Bool:=Nat.ble s.size (posR s i) || !decide (err1 s (posR s i)=0)
def endR (s:ByteArray):Nat:=firstOf (stopR s) (s.size+1) 0
def errR (s:ByteArray):Int:=if s.size≤posR s (endR s) then 0 else err1 s (posR s (endR s))
theorem byteAt_in (s:ByteArray) (i:Int):0≤byteAt s i∧byteAt s i < 256:=by
  unfold byteAt
  have:=(s.data.toList.getD i.toNat 0).toNat_lt
  omega
theorem stopR_no {s:ByteArray} {i:Nat} (h:stopR s i=false):posR s i < s.size∧err1 s (posR s i)=0:=by
  unfold stopR at h
  simp only [Bool.or_eq_false_iff,Bool.not_eq_false',decide_eq_true_eq] at h
  obtain ⟨a,b⟩:=h
  rw [← Bool.not_eq_true,Nat.ble_eq] at a
  exact ⟨by omega,b⟩
theorem stopR_yes {s:ByteArray} {i:Nat} (h:stopR s i=true):s.size≤posR s i ∨ ¬ err1 s (posR s i)=0:=by
  unfold stopR at h
  simp only [Bool.or_eq_true,Nat.ble_eq,Bool.not_eq_true',decide_eq_false_iff_not] at h
  exact h
theorem pos1_up (s:ByteArray) (a:Nat) (h:a < s.size) (he:err1 s a=0):a+1≤pos1 s a∧pos1 s a≤s.size:=by
  have hm:=byteAt_in s (a+1:Nat)
  unfold pos1
  unfold err1 at he
  split at he
  · rename_i hk;rw [if_pos hk];omega
  · rename_i hk
    rw [if_neg hk]
    split at he
    · cases he
    · split at he
      · cases he
      · split at he
        · cases he
        · unfold manyR at *
          omega
theorem endR_le (s:ByteArray):endR s≤s.size+1∧∀ j,j < endR s→posR s j < s.size∧err1 s (posR s j)=0:=by
  obtain ⟨h1,h2,-⟩:=firstOf_le (stopR s) (s.size+1)
  exact ⟨h1,fun j hj=>stopR_no (h2 j hj)⟩
theorem posR_up (s:ByteArray):∀ i,i≤endR s→i≤posR s i∧posR s i≤s.size
  | 0,_=>⟨Nat.le_refl _,Nat.zero_le _⟩
  | i+1,h=>by
    obtain ⟨h1,h2⟩:=posR_up s i (by omega)
    obtain ⟨h3,h4⟩:=(endR_le s).2 i (by omega)
    have:=pos1_up s _ h3 h4
    simp only [posR]
    omega
theorem endR_size (s:ByteArray):endR s≤s.size:=Nat.le_trans (posR_up s (endR s) (Nat.le_refl _)).1 (posR_up s (endR s) (Nat.le_refl _)).2
theorem endR_stop (s:ByteArray):s.size≤posR s (endR s) ∨ ¬ err1 s (posR s (endR s))=0:=by
  obtain ⟨-,-,h3⟩:=firstOf_le (stopR s) (s.size+1)
  exact stopR_yes (h3 (by have:=endR_size s;unfold endR at this;omega))
theorem acc1_len (s:ByteArray) (a:Nat):(acc1 s a).length≤1:=by
  unfold acc1
  split
  · split <;> simp
  · simp
theorem accR_len (s:ByteArray):∀ i,(accR s i).length≤i
  | 0=>Nat.le_refl _
  | i+1=>by
    have:=accR_len s i
    have:=acc1_len s (posR s i)
    simp only [accR,List.length_append];omega
theorem acc1_val (s:ByteArray) (a:Nat):∀ o ∈ acc1 s a,o.val.size≤s.size:=by
  intro o ho
  unfold acc1 at ho
  split at ho
  · split at ho
    · simp only [List.mem_singleton] at ho;subst ho;exact Nat.zero_le _
    · cases ho
  · simp only [List.mem_singleton] at ho;subst ho
    show (s.extract _ _).size≤_
    rw [ByteArray.size_extract];omega
theorem accR_val (s:ByteArray):∀ i,∀ o ∈ accR s i,o.val.size≤s.size
  | 0,_,h=>by cases h
  | i+1,o,h=>by
    simp only [accR,List.mem_append] at h
    rcases h with h | h
    · exact accR_val s i o h
    · exact acc1_val s _ o h
def optsOf (s:ByteArray):List Op:=accR s (endR s)
def opCells (l:List Op):List Value:=l.flatMap fun o=>[.int .i64 o.kind,.string o.val]
def opN (l:List Op) (i:Nat):Op:=l.getD i ⟨0,⟨⟨[]⟩⟩⟩
theorem opCells_cons (o:Op) (l:List Op):opCells (o :: l) = .int .i64 o.kind :: .string o.val :: opCells l:=rfl
theorem opCells_append (l m:List Op):opCells (l++m)=opCells l++opCells m:=by simp [opCells]
theorem opCells_at:∀ (l:List Op) (i:Nat),i < l.length→cellAt (opCells l) (i * 2+0) = .int .i64 (opN l i).kind∧cellAt (opCells l) (i * 2+1) = .string (opN l i).val
  | [],_,h=>absurd h (Nat.not_lt_zero _)
  | o :: l,0,_=>⟨rfl,rfl⟩
  | o :: l,i+1,h=>by
    have:=opCells_at l i (by simp at h;omega)
    rw [opCells_cons]
    rw [show (i+1) * 2+0=(i * 2+0)+1+1 by omega,show (i+1) * 2+1=(i * 2+1)+1+1 by omega]
    exact this
theorem opCells_row (l:List Op):AllOp l.length (fun i j=>cellAt (opCells l) (i * 2+j))∧∀ i,i < l.length→opF (fun i j=>cellAt (opCells l) (i * 2+j)) i=opN l i:=by
  have e:∀ i,i < l.length→opF (fun i j=>cellAt (opCells l) (i * 2+j)) i=opN l i:=by
    intro i hi
    obtain ⟨a,b⟩:=opCells_at l i hi
    unfold opF
    simp only [a,b,intV,strV]
  refine ⟨fun i hi j hj=>?_,e⟩
  rw [e i hi]
  obtain ⟨a,b⟩:=opCells_at l i hi
  match j,hj with
  | 0,_=>exact a
  | 1,_=>exact b
theorem firstOf_congr {p q:Nat→Bool}:∀ {n i:Nat},(∀ j,i≤j→j < i+n→p j=q j)→firstOf p n i=firstOf q n i:=by
  intro n
  induction n with
  | zero=>intro i _;rfl
  | succ n ih =>
    intro i h
    unfold firstOf
    rw [h i (Nat.le_refl _) (by omega),ih (i:=i+1) (fun j h1 h2=>h j (by omega) (by omega))]
theorem sizeL_congr {g h:Nat→Op}:∀ {n:Nat},(∀ i,i < n→g i=h i)→sizeL g n=sizeL h n
  | 0,_=>rfl
  | n+1,e=>by simp only [sizeL];rw [sizeL_congr (fun i hi=>e i (by omega)),e n (by omega)]
theorem chkO_congr {n:Nat} {g h:Nat→Op} (e:∀ i,i < n→g i=h i):chkO n g=chkO n h:=by
  have e1:badE n g=badE n h:=firstOf_congr fun j _ hj=>by unfold badO;rw [e j (by omega)]
  have e2:mandE n g=mandE n h:=firstOf_congr fun j _ hj=>by
    unfold mandO
    rw [e j (by omega)]
    by_cases hl:j+1 < n
    · rw [e (j+1) hl]
    · have:j+1=n:=by omega
      simp [this]
  unfold chkO
  rw [e1,e2,sizeL_congr e]
  by_cases hb:badE n h < n
  · rw [if_pos hb,if_pos hb,e _ hb]
  · rw [if_neg hb,if_neg hb]
theorem bytesO_len {o:Op} (h:rightO o=0):((bytesO o).length:Int)=sizeO o:=by
  obtain ⟨r1,r2,r3,r4⟩:=rightO_ok h
  unfold bytesO sizeO
  split
  · rfl
  · simp only [List.length_cons]
    have:o.val.data.toList.length=o.val.size:=by simp
    omega
theorem chkO_ok {n:Nat} {g:Nat→Op} (h:chkO n g=0):(∀ i,i < n→rightO (g i)=0)∧sizeL g n≤400:=by
  obtain ⟨b1,b2,b3⟩:=badE_spec n g
  unfold chkO at h
  split at h
  · rename_i hb;exact absurd h (b3 hb)
  · rename_i hb
    have e:badE n g=n:=by omega
    split at h
    · cases h
    · split at h
      · cases h
      · exact ⟨fun i hi=>b2 i (by omega),by omega⟩
theorem optL_len {g:Nat→Op}:∀ {n:Nat},(∀ i,i < n→rightO (g i)=0)→((optL g n).length:Int)=sizeL g n
  | 0,_=>rfl
  | n+1,h=>by
    simp only [optL,sizeL,List.length_append,Int.natCast_add]
    rw [optL_len (fun i hi=>h i (by omega)),bytesO_len (h n (by omega))]
end Go.Proofs.YthacfgaacleaeaaGreatDoor
namespace Go.Proofs.YthacfgaacleaeaaGreatDoor
open Go.IntKind (i64 u32)
open Go.RowKit Sym Go.ChangeShapes Go.WideShapes Go.ChangeMaps Inet
def covV (h d:ByteArray) (c:Int):Value:=.tuple #[.string (covB h d c),.bool (covOk d c)]
theorem inet_Covered (h d:ByteArray) (c:Int) (hs:h.size≤1000000∧d.size≤1000000) (w:World):Calls Tryz.prog 105 #[.string h,.string d,.int .i64 c] w fun e w'=>e = .returned (covV h d c)∧Below w.heap.size w w':=by
  refine calls_runV (onlyS_ok noS_ok) follows Tryz.func105 (by kernel_rfl) (by kernel_rfl) noL_ok (cov_run h d c) ?_ w
  obtain ⟨h1,h2⟩:=hs
  unfold covV covB covOk
  have hw:0≤c→c≤15→i64.wrap (4 * i64.wrap (c - 1))=4 * (c - 1):=fun a b=>by rw [w64 (c - 1) (by omega) (by omega),w64 _ (by omega) (by omega)]
  have e0:d.extract 0 d.size=d:=by apply ByteArray.ext;simp
  by_cases c0:0≤c
  · by_cases c1:c≤15
    · rw [hw c0 c1]
      by_cases cz:c=0
      · subst cz
        simp [T.ok,e0] <;> omega
      · by_cases cd:4 * (c - 1)≤d.size
        · simp [T.ok,c0,c1,cz,cd] <;> omega
        · simp [T.ok,c0,c1,cz,cd] <;> omega
    · simp [T.ok,c0,c1] <;> omega
  · simp [T.ok,c0] <;> omega
theorem ref04_Covered (h d:ByteArray) (c:Int) (hs:h.size≤1000000∧d.size≤1000000) (w:World):Calls Tryz.prog 166 #[.string h,.string d,.int .i64 c] w fun e w'=>e = .returned (covV h d c)∧Below w.heap.size w w':=by
  refine calls_runV (onlyS_ok noS_ok) follows Tryz.func166 (by kernel_rfl) (by kernel_rfl) noL_ok (covR_run h d c) ?_ w
  obtain ⟨h1,h2⟩:=hs
  unfold covV covB covOk
  have hw:0≤c→c≤15→i64.wrap (4 * i64.wrap (c - 1))=4 * (c - 1):=fun a b=>by rw [w64 (c - 1) (by omega) (by omega),w64 _ (by omega) (by omega)]
  by_cases c0:0≤c
  · by_cases c1:c≤15
    · rw [hw c0 c1]
      by_cases cz:c=0
      · subst cz
        simp [T.ok] <;> omega
      · by_cases cd:4 * (c - 1)≤d.size
        · simp [T.ok,c0,c1,cz,cd] <;> omega
        · simp [T.ok,c0,c1,cz,cd] <;> omega
    · simp [T.ok,c0,c1] <;> omega
  · simp [T.ok,c0] <;> omega
def tCov:List Value→Option (List Prop×Value) | [.string h,.string d,.int .i64 c]=>some ([h.size≤1000000∧d.size≤1000000],.tuple #[.string (covB h d c),.bool (covOk d c)]) | _=>none
set_option maxRecDepth 100000 in
theorem pserved_run (k:Int):runV Tryz.prog (onlyS Tryz.prog noS) noL Tryz.f113 [.int .i64 k] = .ite (decide (k=(0:Int))) (.leaf (Value.bool true)) (.leaf (Value.bool (decide (k=(1:Int))))):=by kernel_rfl
theorem packet_served (k:Int) (w:World):Calls Tryz.prog 113 #[.int .i64 k] w fun e w'=>e = .returned (.bool (served k))∧Below w.heap.size w w':=by
  refine calls_runV (onlyS_ok noS_ok) follows Tryz.func113 (by kernel_rfl) (by kernel_rfl) noL_ok (pserved_run k) ?_ w
  unfold served
  by_cases h0:k=0 <;> by_cases h1:k=1 <;> simp [T.ok,h0,h1]
set_option maxRecDepth 100000 in
theorem pwithin_run (n m:Int):runV Tryz.prog (onlyS Tryz.prog noS) noL Tryz.f157 [.int .i64 n,.int .i64 m] = .ite (decide (n ≥ (0:Int))) (.leaf (Value.bool (decide (n < m)))) (.leaf (Value.bool false)):=by kernel_rfl
theorem packet_within (n m:Int) (w:World):Calls Tryz.prog 157 #[.int .i64 n,.int .i64 m] w fun e w'=>e = .returned (.bool (wn n m))∧Below w.heap.size w w':=by
  refine calls_runV (onlyS_ok noS_ok) follows Tryz.func157 (by kernel_rfl) (by kernel_rfl) noL_ok (pwithin_run n m) ?_ w
  unfold wn
  by_cases h0:0≤n <;> by_cases h1:n < m <;> simp [T.ok,h0,h1]
def tServed:List Value→Option (List Prop×Value) | [.int .i64 k]=>some ([],.bool (served k)) | _=>none
def tWn:List Value→Option (List Prop×Value) | [.int .i64 n,.int .i64 m]=>some ([],.bool (wn n m)) | _=>none
def SPk0  : Tab:=addS 113 tServed <| addS 157 tWn <| addS 105 tCov <| addS 166 tCov <| SHead3
theorem SPk0_ok:TabOk Tryz.prog (SPk0):=by
  refine addS_ok (addS_ok (addS_ok (addS_ok (SHead3_ok) (by kernel_rfl) ?_) (by kernel_rfl) ?_) (by kernel_rfl) ?_) (by kernel_rfl) ?_
  · (intro xs p v h hp w;unfold tCov at h;(split at h) <;> first | (cases h;done) | (simp only [Option.some.injEq,Prod.mk.injEq] at h;obtain ⟨rfl,rfl⟩:=h;exact ref04_Covered _ _ _ (hp _ (List.mem_cons_self ..)) w))
  · (intro xs p v h hp w;unfold tCov at h;(split at h) <;> first | (cases h;done) | (simp only [Option.some.injEq,Prod.mk.injEq] at h;obtain ⟨rfl,rfl⟩:=h;exact inet_Covered _ _ _ (hp _ (List.mem_cons_self ..)) w))
  · (intro xs p v h hp w;unfold tWn at h;(split at h) <;> first | (cases h;done) | (simp only [Option.some.injEq,Prod.mk.injEq] at h;obtain ⟨rfl,rfl⟩:=h;exact packet_within _ _ w))
  · (intro xs p v h hp w;unfold tServed at h;(split at h) <;> first | (cases h;done) | (simp only [Option.some.injEq,Prod.mk.injEq] at h;obtain ⟨rfl,rfl⟩:=h;exact packet_served _ w))
def FOpt2:LTab:=addR 55 (rd1 2 OpP fun n f=>.int .i64 (chkO n (opF f))) <| addR 135 (rd1 2 OpP fun n f=>.int .i64 (chkO n (opF f))) FOpt1
theorem FOpt2_ok:LOk Tryz.prog FOpt2:=addR_ok (addR_ok FOpt1_ok (by kernel_rfl) (rd1_ok fun n f v w hv hp=>ref07_Check n (opF f) hp.2 v w (op_row hv hp.1)))
  (by kernel_rfl) (rd1_ok fun n f v w hv hp=>opts_Check n (opF f) hp.2 v w (op_row hv hp.1))
abbrev fsOpt:List Nat:=[102,169,55,135]
abbrev CP0 (P:Program):Cfg:=both P SPk0 FOpt2 fsOpt
theorem CP0_ok:CfgOk Tryz.prog (CP0 Tryz.prog):=both_ok SPk0_ok FOpt2_ok
set_option maxRecDepth 100000 in
theorem pnum_run (p:Pk) (n:Nat) (f:Nat→Nat→Value):runO Tryz.prog (CP0 Tryz.prog) noL Tryz.f104 [p.s (.ref 0)] [.row n 2 f] =
 letI q1:T Value:=.leaf (Value.bool false);
 letI q0:T Value:=.ite (!decide (p.1=(7:Int))) (.leaf (Value.bool true)) (.ite (wn p.10 (256:Int)) (.leaf (Value.bool (wn p.11 (16777216:Int)))) q1);
 letI q:T Value:=.ite (served p.1) (.ite (!wn p.9 (4294967296:Int)) q1 q0) q0;
 .ite p.2 (.ite (Head.acks p.1) (.ite (!wn p.8 (281474976710656:Int)) q1 q) q) (.ite (Head.acks p.1) (.ite (!wn p.8 (16777216:Int)) q1 q) q):=by kernel_rfl
set_option maxRecDepth 100000 in
theorem pspare_run (p:Pk) (n:Nat) (f:Nat→Nat→Value):runO Tryz.prog (CP0 Tryz.prog) noL Tryz.f81 [p.s (.ref 0)] [.row n 2 f] =
 letI q3:=(0:Int);
 letI q1:T Value:=.leaf (Value.bool true);
 letI q0:T Value:=.ite (!Head.bears p.1) (.leaf (Value.bool !decide (p.12=ByteArray.mk (Array.mk [])))) (.leaf (Value.bool false));
 letI q:T Value:=.ite (!decide (p.1=(7:Int))) (.ite (!decide (p.10=q3)) q1 (.ite (!decide (p.11=q3)) q1 q0)) q0;
 letI q2:T Value:=.ite (!served p.1) (.ite (!decide (p.9=q3)) q1 q) q;
 .ite (!Head.acks p.1) (.ite (!decide (p.8=q3)) q1 q2) q2:=by kernel_rfl
set_option maxRecDepth 100000 in
theorem pspareR_run (p:Pk) (n:Nat) (f:Nat→Nat→Value):runO Tryz.prog (CP0 Tryz.prog) noL Tryz.f88 [p.s (.ref 0)] [.row n 2 f] =
 letI q3:=(0:Int);
 letI q2:T Value:=.leaf (Value.bool true);
 letI q0:T Value:=.ite (!Head.bears p.1) (.leaf (Value.bool !decide (p.12=ByteArray.mk (Array.mk [])))) (.leaf (Value.bool false));
 letI q:T Value:=.ite (!decide (p.1=(7:Int))) (.ite (!decide (p.10=q3)) q2 (.ite (!decide (p.11=q3)) q2 q0)) q0;
 letI q1:T Value:=.ite (decide (p.1 > (1:Int))) (.ite (!decide (p.9=q3)) q2 q) q;
 .ite (!Head.acks p.1) (.ite (!decide (p.8=q3)) q2 q1) q1:=by kernel_rfl
set_option maxRecDepth 100000 in
theorem pbegin_run (p:Pk) (n:Nat) (f:Nat→Nat→Value):runO Tryz.prog (CP0 Tryz.prog) noL Tryz.f57 [p.s (.ref 0)] [.row n 2 f] =
 letI q:=(i64.wrap (i64.wrap (i64.wrap (Head.size p.1 p.2+sizeL (opF f) n)+(4:Int)) - (1:Int))).tdiv (4:Int);
 .need (OpP n f) (.leaf (Value.agg (Array.mk [Value.int i64 p.3,Value.int i64 p.4,Value.int i64 (if (255:Int) < i64.wrap q then (255:Int) else i64.wrap q),Value.int i64 p.5,Value.int i64 p.6,Value.int i64 0,Value.int i64 p.1,Value.bool p.2,Value.int i64 p.7]))):=by kernel_rfl
end Go.Proofs.YthacfgaacleaeaaGreatDoor
namespace Go.Proofs.YthacfgaacleaeaaGreatDoor
open Go.IntKind (i64 u32)
open Go.RowKit Sym Go.ChangeShapes Go.WideShapes Go.ChangeMaps Inet
theorem mk_nil_iff (s:ByteArray):(s=ByteArray.mk (Array.mk []))=(s.size=0):=propext (ba_empty s)
theorem packet_numbered (p:Pk) (n:Nat) (f:Nat→Nat→Value) (o:Value) (w:World) (hv:∀ B,BlkSat B w o (.row n 2 f)):Calls Tryz.prog 104 #[p.v o] w fun e w'=>e = .returned (.bool (numP p))∧Below w.heap.size w w':=by
  refine calls_runO CP0_ok follows Tryz.func104 (by kernel_rfl) (by kernel_rfl) (noloops (by kernel_rfl)) (pnum_run p n f) ?_ (mem_row (hv [o])) rfl
  unfold numP Head.most
  simp only [T.ok,Value.bool.injEq]
  generalize Head.acks p.kind=a
  generalize served p.kind=s
  generalize decide (p.kind=7)=k
  generalize wn p.service 4294967296=x
  generalize wn p.code 256=y
  generalize wn p.detail 16777216=z
  generalize p.long=l
  have e:wn p.ack (if l=true then 281474976710656 else 16777216)=bif l then wn p.ack 281474976710656 else wn p.ack 16777216:=by cases l <;> rfl
  rw [e]
  generalize wn p.ack 16777216=b
  generalize wn p.ack 281474976710656=c
  clear e
  cases a <;> cases s <;> cases k <;> cases l <;> (simp only [Bool.not_true,Bool.not_false,Bool.false_eq_true,Bool.true_eq_false,false_implies,true_implies,and_true,true_and,cond_true,cond_false];revert x y z b c;decide)
theorem packet_spare (p:Pk) (n:Nat) (f:Nat→Nat→Value) (o:Value) (w:World) (hv:∀ B,BlkSat B w o (.row n 2 f)):Calls Tryz.prog 81 #[p.v o] w fun e w'=>e = .returned (.bool (spareP p))∧Below w.heap.size w w':=by
  refine calls_runO CP0_ok follows Tryz.func81 (by kernel_rfl) (by kernel_rfl) (noloops (by kernel_rfl)) (pspare_run p n f) ?_ (mem_row (hv [o])) rfl
  unfold spareP
  simp only [mk_nil_iff,T.ok,Value.bool.injEq]
  generalize Head.acks p.kind=a
  generalize Head.bears p.kind=b
  generalize served p.kind=s
  generalize decide (p.kind=7)=k
  generalize decide (p.ack=0)=x
  generalize decide (p.service=0)=y
  generalize decide (p.code=0)=z
  generalize decide (p.detail=0)=u
  generalize decide (p.data.size=0)=v
  cases a <;> cases b <;> cases s <;> cases k <;> (simp only [Bool.not_true,Bool.not_false,Bool.false_eq_true,Bool.true_eq_false,false_implies,true_implies,and_true,true_and];revert x y z u v;decide)
theorem ref10_spare (p:Pk) (h0:0≤p.kind) (n:Nat) (f:Nat→Nat→Value) (o:Value) (w:World) (hv:∀ B,BlkSat B w o (.row n 2 f)):Calls Tryz.prog 88 #[p.v o] w fun e w'=>e = .returned (.bool (spareP p))∧Below w.heap.size w w':=by
  refine calls_runO CP0_ok follows Tryz.func88 (by kernel_rfl) (by kernel_rfl) (noloops (by kernel_rfl)) (pspareR_run p n f) ?_ (mem_row (hv [o])) rfl
  have e:served p.kind=!decide (p.kind > 1):=by
    unfold served
    by_cases h:p.kind > 1
    · simp [h];omega
    · simp [h];omega
  unfold spareP
  rw [e]
  simp only [mk_nil_iff,T.ok,Value.bool.injEq]
  generalize Head.acks p.kind=a
  generalize Head.bears p.kind=b
  generalize decide (p.kind > 1)=s
  generalize decide (p.kind=7)=k
  generalize decide (p.ack=0)=x
  generalize decide (p.service=0)=y
  generalize decide (p.code=0)=z
  generalize decide (p.detail=0)=u
  generalize decide (p.data.size=0)=v
  cases a <;> cases b <;> cases s <;> cases k <;> (simp only [Bool.not_true,Bool.not_false,Bool.false_eq_true,Bool.true_eq_false,false_implies,true_implies,and_true,true_and];revert x y z u v;decide)
theorem packet_beginning (p:Pk) (n:Nat) (f:Nat→Nat→Value) (ho:OpP n f) (o:Value) (w:World) (hv:∀ B,BlkSat B w o (.row n 2 f)):Calls Tryz.prog 57 #[p.v o] w fun e w'=>e = .returned (begH p n (opF f) 0).v∧Below w.heap.size w w':=by
  refine calls_runO CP0_ok follows Tryz.func57 (by kernel_rfl) (by kernel_rfl) (noloops (by kernel_rfl)) (pbegin_run p n f) ?_ (mem_row (hv [o])) rfl
  refine ⟨ho,?_⟩
  obtain ⟨-,f1,f2⟩:=ho
  have hb:=sizeL_bd (opF f) n (fun j hj=>f2 j hj)
  have hs:0≤Head.size p.kind p.long∧Head.size p.kind p.long≤100:=by unfold Head.size;split <;> (try split) <;> (try split) <;> (try split) <;> omega
  have e1:i64.wrap (Head.size p.kind p.long+sizeL (opF f) n)=Head.size p.kind p.long+sizeL (opF f) n:=w64 _ (by omega) (by omega)
  have e2:i64.wrap (Head.size p.kind p.long+sizeL (opF f) n+4)=Head.size p.kind p.long+sizeL (opF f) n+4:=w64 _ (by omega) (by omega)
  have e3:i64.wrap (Head.size p.kind p.long+sizeL (opF f) n+4 - 1)=Head.size p.kind p.long+sizeL (opF f) n+3:=by rw [w64 _ (by omega) (by omega)];omega
  have e4:(Head.size p.kind p.long+sizeL (opF f) n+3).tdiv 4=(Head.size p.kind p.long+sizeL (opF f) n+3) / 4:=Int.tdiv_eq_ediv_of_nonneg (by omega)
  have e5:i64.wrap ((Head.size p.kind p.long+sizeL (opF f) n+3) / 4)=(Head.size p.kind p.long+sizeL (opF f) n+3) / 4:=w64 _ (by omega) (by omega)
  rw [e1,e2,e3,e4,e5]
  have e6:(if (255:Int) < (Head.size p.kind p.long+sizeL (opF f) n+3) / 4 then (255:Int) else (Head.size p.kind p.long+sizeL (opF f) n+3) / 4)=wordsP p n (opF f):=by
    unfold wordsP;split <;> omega
  rw [e6]
  rfl
end Go.Proofs.YthacfgaacleaeaaGreatDoor
namespace Go.Proofs.YthacfgaacleaeaaGreatDoor
open Go.IntKind (i64 u32)
open Go.RowKit Sym Go.ChangeShapes Go.WideShapes Go.ChangeMaps Inet
def begP (p:Pk) (n:Nat) (f:Nat→Nat→Value):Value:=.agg #[.int .i64 p.src,.int .i64 p.dst,.int .i64 (wordsP p n (opF f)),.int .i64 p.ccval,.int .i64 p.cover,.int .i64 0,.int .i64 p.kind,.bool p.long,.int .i64 p.seq]
def KindP (p:Pk):Prop:=0≤p.kind
def FPk1:LTab:=addR 57 (rdP (fun _ n f=>OpP n f) begP) <| addR 104 (rdP (fun _ _ _=>True) fun p _ _=>.bool (numP p)) <| addR 81 (rdP (fun _ _ _=>True) fun p _ _=>.bool (spareP p)) <| addR 88 (rdP (fun p _ _=>KindP p) fun p _ _=>.bool (spareP p)) <| FOpt2
theorem FPk1_ok:LOk Tryz.prog FPk1:=addR_ok (addR_ok (addR_ok (addR_ok (FOpt2_ok) (by kernel_rfl) (rdP_ok fun p n fr o w hv hp=>ref10_spare p hp n fr o w hv)) (by kernel_rfl) (rdP_ok fun p n fr o w hv _=>packet_spare p n fr o w hv)) (by kernel_rfl) (rdP_ok fun p n fr o w hv _=>packet_numbered p n fr o w hv)) (by kernel_rfl) (rdP_ok fun p n fr o w hv hp=>packet_beginning p n fr hp o w hv)
abbrev fsPk1:List Nat:=57 :: 104 :: 81 :: 88 :: fsOpt
abbrev CP1 (P:Program):Cfg:=both P SPk0 FPk1 fsPk1
theorem CP1_ok:CfgOk Tryz.prog (CP1 Tryz.prog):=both_ok SPk0_ok FPk1_ok
set_option maxRecDepth 100000 in
theorem pcheck_run (p:Pk) (n:Nat) (f:Nat→Nat→Value):runO Tryz.prog (CP1 Tryz.prog) noL Tryz.f56 [p.s (.ref 0)] [.row n 2 f] =
 letI q:=((Pk.mk p.kind p.long p.src p.dst p.ccval p.cover p.seq p.ack p.service p.code p.detail p.data,openS (SV.ref 0)).fst,(n,f).fst,(n,f).snd);
 letI q0:=Head.H.mk p.3 p.4 (wordsP p n (opF q.snd.snd)) p.5 p.6 (0:Int) p.1 p.2 p.7;
 letI q1:T Value:=.leaf (Value.int i64 3);
 .need (OpP n q.snd.snd) (.ite (!decide (Head.check q0=(0:Int))) (.leaf (Value.int i64 (Head.check q0))) (.need True (.ite (!numP p) q1 (.need (OpP n f) (.ite (!decide (chkO n (opF f)=(0:Int))) (.leaf (Value.int i64 (chkO n (opF f)))) (.need ((ByteArray.mk #[]).size≤1000000∧p.data.size≤1000000) (.ite (decide ((↑p.12.size:Int) > (200:Int))) (.leaf (Value.int i64 11)) (.need True (.ite (spareP p) (.leaf (Value.int i64 4)) (.ite (!covOk p.12 p.6) q1 (.leaf (Value.int i64 0)))))))))))):=by kernel_rfl
end Go.Proofs.YthacfgaacleaeaaGreatDoor
namespace Go.Proofs.YthacfgaacleaeaaGreatDoor
open Go.IntKind (i64 u32)
open Go.RowKit Sym Go.ChangeShapes Go.WideShapes Go.ChangeMaps Inet
theorem packet_Check (p:Pk) (n:Nat) (f:Nat→Nat→Value) (ho:OpP n f∧p.data.size≤1000000) (o:Value) (w:World) (hv:∀ B,BlkSat B w o (.row n 2 f)):Calls Tryz.prog 56 #[p.v o] w fun e w'=>e = .returned (.int .i64 (chkP p n (opF f)))∧Below w.heap.size w w':=by
  refine calls_runO CP1_ok follows Tryz.func56 (by kernel_rfl) (by kernel_rfl) (noloops (by kernel_rfl)) (pcheck_run p n f) ?_ (mem_row (hv [o])) rfl
  obtain ⟨h1,h2⟩:=ho
  have z:(ByteArray.mk #[]).size≤1000000:=Nat.zero_le _
  unfold chkP begH
  simp only [T.ok,Bool.not_eq_true',Bool.not_eq_false',decide_eq_true_eq,decide_eq_false_iff_not]
  refine ⟨h1,fun a=>?_,fun a=>⟨trivial,fun b=>?_,fun b=>⟨h1,fun c=>?_,fun c=>⟨⟨z,h2⟩,fun d=>?_,fun d=>⟨trivial,fun e=>?_,fun e=>⟨fun g=>?_,fun g=>?_⟩⟩⟩⟩⟩⟩
  · rw [if_neg a]
  · rw [if_pos a,if_neg (by rw [b];decide)]
  · rw [if_pos a,if_pos b,if_neg c]
  · rw [if_pos a,if_pos b,if_pos c,if_pos (by omega)]
  · rw [if_pos a,if_pos b,if_pos c,if_neg (by omega),if_pos e]
  · rw [if_pos a,if_pos b,if_pos c,if_neg (by omega),if_neg (by rw [e];decide),if_neg (by rw [g];decide)]
  · rw [if_pos a,if_pos b,if_pos c,if_neg (by omega),if_neg (by rw [e];decide),if_pos g]
end Go.Proofs.YthacfgaacleaeaaGreatDoor
namespace Go.Proofs.YthacfgaacleaeaaGreatDoor
open Go.IntKind (i64 u32)
open Go.RowKit Sym
structure BelowF (W:World) where
  w:World
  h:Below W.heap.size W w
instance (W:World):Inhabited (BelowF W):=⟨⟨W,Below.refl _ _⟩⟩
def knP (a b:ByteArray):Bool:=!(decide (a=nilB) && decide (b=nilB))
set_option maxRecDepth 100000 in
theorem knownP_run (a b:ByteArray):runV Tryz.prog (onlyS Tryz.prog noS) noL Tryz.f35 [.agg #[.string a,.string b]] = .leaf (Value.bool !(decide (a=ByteArray.mk (Array.mk [])) && (decide (b=ByteArray.mk (Array.mk [])) && true))):=by kernel_rfl
theorem known_at (a b:ByteArray) (w:World):Calls Tryz.prog 35 #[.agg #[.string a,.string b]] w fun e w'=>e = .returned (.bool (knP a b))∧Below w.heap.size w w':=by
  refine calls_runV (onlyS_ok noS_ok) follows Tryz.func35 (by kernel_rfl) (by kernel_rfl) noL_ok (knownP_run a b) ?_ w
  show _=_
  unfold knP nilB
  by_cases h1:a=ByteArray.mk (Array.mk []) <;> by_cases h2:b=ByteArray.mk (Array.mk []) <;> simp [h1,h2]
def chkD (a b:ByteArray) (side:Int) (L:List Mp) (data:ByteArray):Int :=
  if knP a b=false then 10 else if ¬ (fS L 4=true∧fS L 6=true∧fS L 5=true) then 8
  else if (fD L 5).bytes=tagP a b (dataText side (fD L 4).num (fD L 6).num data) then 0 else 14
def DatP (z:Int) (e:Ending):Prop:=(z=0∧e = .returned .nilIface) ∨ (z ≠ 0∧∃ part,e = .returned (.iface 126 (.agg #[.int .i64 part,.int .i64 z])))
theorem lacks_at {w:World} {v:Value} {L:List Mp} (hL:L.length≤1000) (h:MusAt w v L):Calls Tryz.prog 63 #[v] w fun e w'=>e = .returned (lackV L (a3 L 4) (a3 L 6) (a3 L 5))∧Below w.heap.size w w':=lacks_key hL h
def lkB (L:List Mp):Bool:=fS L 4 && fS L 6 && fS L 5
def lkX (L:List Mp):Value:=match lackV L (a3 L 4) (a3 L 6) (a3 L 5) with | .tuple ⟨[x,_]⟩=>x | x=>x
def lkI (L:List Mp):Int:=if i3 L 4 < 0 then 0 else if i3 L 6 < 0 then 1 else 2
theorem lackV_yes {L:List Mp} (h:lkB L=true):lackV L (a3 L 4) (a3 L 6) (a3 L 5) = .tuple #[.agg (acc3 (fD L 4) (fD L 6) (fD L 5)),.nilIface]:=by
  unfold lkB at h
  simp only [Bool.and_eq_true] at h
  obtain ⟨⟨s4,s6⟩,s5⟩:=h
  rcases i3_at L 4 with ⟨-,q⟩ | ⟨g4,-,-,-,d4⟩
  · rw [q] at s4;cases s4
  rcases i3_at L 6 with ⟨-,q⟩ | ⟨g6,-,-,-,d6⟩
  · rw [q] at s6;cases s6
  rcases i3_at L 5 with ⟨-,q⟩ | ⟨g5,-,-,-,d5⟩
  · rw [q] at s5;cases s5
  unfold lackV
  rw [if_neg (by omega),if_neg (by omega),if_neg (by omega),d4,d6,d5]
theorem lackV_no {L:List Mp} (h:lkB L=false):lackV L (a3 L 4) (a3 L 6) (a3 L 5) = .tuple #[lkX L,.iface 126 (.agg #[.int .i64 (lkI L),.int .i64 8])]:=by
  unfold lkX lkI
  have hc:i3 L 4 < 0 ∨ i3 L 6 < 0 ∨ i3 L 5 < 0:=by
    rcases i3_at L 4 with ⟨q,-⟩ | ⟨-,-,-,s4,-⟩
    · exact .inl q
    rcases i3_at L 6 with ⟨q,-⟩ | ⟨-,-,-,s6,-⟩
    · exact .inr (.inl q)
    rcases i3_at L 5 with ⟨q,-⟩ | ⟨-,-,-,s5,-⟩
    · exact .inr (.inr q)
    unfold lkB at h
    rw [s4,s6,s5] at h;cases h
  unfold lackV
  by_cases h4:i3 L 4 < 0
  · simp only [if_pos h4]
  · by_cases h6:i3 L 6 < 0
    · simp only [if_neg h4,if_pos h6]
    · have h5:i3 L 5 < 0:=by omega
      simp only [if_neg h4,if_neg h6,if_pos h5]
def lkC (L:List Mp) (i:Nat):Value:=match lkX L with | .agg ⟨l⟩=>l.getD i undef | _=>undef
def lkN (L:List Mp) (i:Nat):Int:=intV (lkC L i)
def lkT (L:List Mp) (i:Nat):ByteArray:=strV (lkC L i)
theorem lkX_cells {L:List Mp} (h:lkB L=false):lkX L = .agg ⟨[.int .i64 (lkN L 0),.int .i64 (lkN L 1),.int .i64 (lkN L 2),.int .i64 (lkN L 3),.int .i64 (lkN L 4),.int .i64 (lkN L 5),.string (lkT L 6),.int .i64 (lkN L 7),.int .i64 (lkN L 8),.int .i64 (lkN L 9),.int .i64 (lkN L 10),.int .i64 (lkN L 11),.int .i64 (lkN L 12),.string (lkT L 13),.int .i64 (lkN L 14),.int .i64 (lkN L 15),.int .i64 (lkN L 16),.int .i64 (lkN L 17),.int .i64 (lkN L 18),.int .i64 (lkN L 19),.string (lkT L 20)]⟩:=by
  have hc:i3 L 4 < 0 ∨ i3 L 6 < 0 ∨ i3 L 5 < 0:=by
    rcases i3_at L 4 with ⟨q,-⟩ | ⟨-,-,-,s4,-⟩
    · exact .inl q
    rcases i3_at L 6 with ⟨q,-⟩ | ⟨-,-,-,s6,-⟩
    · exact .inr (.inl q)
    rcases i3_at L 5 with ⟨q,-⟩ | ⟨-,-,-,s5,-⟩
    · exact .inr (.inr q)
    unfold lkB at h
    rw [s4,s6,s5] at h;cases h
  unfold lkN lkT lkC lkX lackV
  by_cases h4:i3 L 4 < 0
  · simp only [if_pos h4];rfl
  · by_cases h6:i3 L 6 < 0
    · simp only [if_neg h4,if_pos h6];rfl
    · have h5:i3 L 5 < 0:=by omega
      simp only [if_neg h4,if_neg h6,if_pos h5];rfl
def fAllF:List SV→List Blk→Option (T (SV×List Blk))
  | [.ref 0],[.row n 2 f]=>some (.need (OpP n f) (.leaf (.ref 1,[.row n 2 f,.vec true 65 7 (allM (opF f) n).length (cellsM (allM (opF f) n))])))
  | _,_=>none
set_option maxRecDepth 100000 in
theorem fAllF_ok:EntryOk Tryz.prog 33 fAllF:=by
  intro ss H t h bs B w vs hm hv Qs hq
  unfold fAllF at h
  split at h
  · rename_i n f
    simp only [Option.some.injEq] at h
    subst h
    obtain ⟨hp,hq⟩:=hq
    obtain ⟨x0,r0,e0,v0,rfl⟩:=tos_cons hv
    obtain rfl:=tos_nil v0
    simp only [SV.to] at e0
    have hrow:=hm.sat.blk 0 _ x0 rfl e0
    have hO:OptsAt w x0 n (opF f):=optsAt_row (op_row (fun B'=>hrow) hp.1)
    refine (mall_any hp.2 hO).mono ?_
    rintro e w' ⟨u,rfl,ho,hb⟩
    have hnew:∀ b,blockOf u=some b→w.heap.size≤b:=fun b hb=>by
      rcases ho.2 with ⟨rfl,-⟩ | ⟨g,cap,cur,rfl,hbase,-⟩
      · cases hb
      · simp only [blockOf,Option.some.injEq] at hb;omega
    have ho0:w'.ownsRow 0 65 7 u (allM (opF f) n).length (cellsM (allM (opF f) n)):=by
      refine ⟨ho.1,?_⟩
      rcases ho.2 with q | ⟨g,cap,cur,q,-,q2⟩
      · exact .inl q
      · exact .inr ⟨g,cap,cur,q,Nat.zero_le _,q2⟩
    refine ⟨_,_,B++[u],u,hq,List.prefix_append _ _,rfl,?_,hm.add (Sym.below_grown hb) hnew (.inl ho0)⟩
    have:=ref_to hm.sat.len u
    simpa using this
  · cases h
def fLackF:List SV→List Blk→Option (T (SV×List Blk))
  | [.ref 0],[.row n 7 f]=>some (.need (n≤1000∧AllM n f) (.ite (lkB (lstM n f)) (.leaf (.tup [.v (.agg ⟨[.int .i64 (fD (lstM n f) 4).kind,.int .i64 (fD (lstM n f) 4).addr,.int .i64 (fD (lstM n f) 4).prio,.int .i64 (fD (lstM n f) 4).num,.int .i64 (fD (lstM n f) 4).token,.int .i64 (fD (lstM n f) 4).nonce,.string (fD (lstM n f) 4).bytes,.int .i64 (fD (lstM n f) 6).kind,.int .i64 (fD (lstM n f) 6).addr,.int .i64 (fD (lstM n f) 6).prio,.int .i64 (fD (lstM n f) 6).num,.int .i64 (fD (lstM n f) 6).token,.int .i64 (fD (lstM n f) 6).nonce,.string (fD (lstM n f) 6).bytes,.int .i64 (fD (lstM n f) 5).kind,.int .i64 (fD (lstM n f) 5).addr,.int .i64 (fD (lstM n f) 5).prio,.int .i64 (fD (lstM n f) 5).num,.int .i64 (fD (lstM n f) 5).token,.int .i64 (fD (lstM n f) 5).nonce,.string (fD (lstM n f) 5).bytes]⟩),.c .nilIface],[.row n 7 f])) (.leaf (.tup [.v (.agg ⟨[.int .i64 (lkN (lstM n f) 0),.int .i64 (lkN (lstM n f) 1),.int .i64 (lkN (lstM n f) 2),.int .i64 (lkN (lstM n f) 3),.int .i64 (lkN (lstM n f) 4),.int .i64 (lkN (lstM n f) 5),.string (lkT (lstM n f) 6),.int .i64 (lkN (lstM n f) 7),.int .i64 (lkN (lstM n f) 8),.int .i64 (lkN (lstM n f) 9),.int .i64 (lkN (lstM n f) 10),.int .i64 (lkN (lstM n f) 11),.int .i64 (lkN (lstM n f) 12),.string (lkT (lstM n f) 13),.int .i64 (lkN (lstM n f) 14),.int .i64 (lkN (lstM n f) 15),.int .i64 (lkN (lstM n f) 16),.int .i64 (lkN (lstM n f) 17),.int .i64 (lkN (lstM n f) 18),.int .i64 (lkN (lstM n f) 19),.string (lkT (lstM n f) 20)]⟩),.v (.iface 126 (.agg ⟨[.int .i64 (lkI (lstM n f)),.int .i64 8]⟩))],[.row n 7 f]))))
  | _,_=>none
set_option maxRecDepth 100000 in
theorem fLackF_ok:EntryOk Tryz.prog 63 fLackF:=by
  intro ss H t h bs B w vs hm hv Qs hq
  unfold fLackF at h
  split at h
  · rename_i n f
    simp only [Option.some.injEq] at h
    subst h
    obtain ⟨⟨hn,hall⟩,hq⟩:=hq
    obtain ⟨x0,r0,e0,v0,rfl⟩:=tos_cons hv
    obtain rfl:=tos_nil v0
    simp only [SV.to] at e0
    have hrow:=hm.sat.blk 0 _ x0 rfl e0
    have hM:MusAt w x0 (lstM n f):=musAt_row hrow (lstM_len n f).symm hall
    refine (lacks_at (by rw [lstM_len];exact hn) hM).mono ?_
    rintro e w' ⟨rfl,hb⟩
    cases hk:lkB (lstM n f) with
    | true =>
      rw [lackV_yes hk]
      exact ⟨_,_,B,_,hq.1 hk,List.prefix_refl _,rfl,rfl,hm.below hb⟩
    | false =>
      rw [lackV_no hk,lkX_cells hk]
      exact ⟨_,_,B,_,hq.2 hk,List.prefix_refl _,rfl,rfl,hm.below hb⟩
  · cases h
def rdMu (r:List Mp→Value):List SV→List Blk→Option (List Prop×Value)
  | [s],H=>match rowIn 7 H s with
    | some (n,f)=>some ([n≤1000∧AllM n f],r (lstM n f))
    | none=>none
  | _,_=>none
theorem rdMu_ok {P:Program} {k:FuncId} {r:List Mp→Value} (hc:∀ (L:List Mp) (v:Value) (w:World),L.length≤1000→MusAt w v L→Calls P k #[v] w fun e w'=>e = .returned (r L)∧Below w.heap.size w w'):ReadOk P k (rdMu r):=by
  intro ss H q v h bs B w vs hm hv hp
  unfold rdMu at h
  split at h
  · split at h
    · rename_i n fr hr
      simp only [Option.some.injEq,Prod.mk.injEq] at h
      obtain ⟨rfl,rfl⟩:=h
      obtain ⟨x0,r0,e0,v0,rfl⟩:=tos_cons hv
      obtain rfl:=tos_nil v0
      have hh:=hp _ (List.mem_cons_self ..)
      exact hc (lstM n fr) x0 w (by rw [lstM_len];exact hh.1) (musAt_row (rowIn_ok hm e0 hr B) (lstM_len n fr).symm hh.2)
    · cases h
  · cases h
def rdK (r:Int→Nat→(Nat→Op)→Value):List SV→List Blk→Option (List Prop×Value)
  | [s,.v (.int .i64 k)],H=>match rowIn 2 H s with
    | some (n,f)=>some ([OpP n f],r k n (opF f))
    | none=>none
  | _,_=>none
theorem rdK_ok {P:Program} {fn:FuncId} {r:Int→Nat→(Nat→Op)→Value} (hc:∀ (k:Int) (n:Nat) (g:Nat→Op) (v:Value) (w:World),Few n g→OptsAt w v n g→Calls P fn #[v,.int .i64 k] w fun e w'=>e = .returned (r k n g)∧Below w.heap.size w w'):ReadOk P fn (rdK r):=by
  intro ss H q v h bs B w vs hm hv hp
  unfold rdK at h
  split at h
  · split at h
    · rename_i n fr hr
      simp only [Option.some.injEq,Prod.mk.injEq] at h
      obtain ⟨rfl,rfl⟩:=h
      obtain ⟨x0,r0,e0,v0,rfl⟩:=tos_cons hv
      obtain ⟨x1,r1,e1,v1,rfl⟩:=tos_cons v0
      obtain rfl:=tos_nil v1
      simp only [SV.to,Option.some.injEq] at e1
      subst e1
      have hh:=hp _ (List.mem_cons_self ..)
      exact hc _ n (opF fr) x0 w hh.2 (optsAt_row (op_row (fun B'=>rowIn_ok hm e0 hr B') hh.1))
    · cases h
  · cases h
def rdKK (r:Int→Int→Nat→(Nat→Op)→Value):List SV→List Blk→Option (List Prop×Value)
  | [s,.v (.int .i64 k),.v (.int .i64 l)],H=>match rowIn 2 H s with
    | some (n,f)=>some ([OpP n f],r k l n (opF f))
    | none=>none
  | _,_=>none
theorem rdKK_ok {P:Program} {fn:FuncId} {r:Int→Int→Nat→(Nat→Op)→Value} (hc:∀ (k l:Int) (n:Nat) (g:Nat→Op) (v:Value) (w:World),Few n g→OptsAt w v n g→Calls P fn #[v,.int .i64 k,.int .i64 l] w fun e w'=>e = .returned (r k l n g)∧Below w.heap.size w w'):ReadOk P fn (rdKK r):=by
  intro ss H q v h bs B w vs hm hv hp
  unfold rdKK at h
  split at h
  · split at h
    · rename_i n fr hr
      simp only [Option.some.injEq,Prod.mk.injEq] at h
      obtain ⟨rfl,rfl⟩:=h
      obtain ⟨x0,r0,e0,v0,rfl⟩:=tos_cons hv
      obtain ⟨x1,r1,e1,v1,rfl⟩:=tos_cons v0
      obtain ⟨x2,r2,e2,v2,rfl⟩:=tos_cons v1
      obtain rfl:=tos_nil v2
      simp only [SV.to,Option.some.injEq] at e1 e2
      subst e1;subst e2
      have hh:=hp _ (List.mem_cons_self ..)
      exact hc _ _ n (opF fr) x0 w hh.2 (optsAt_row (op_row (fun B'=>rowIn_ok hm e0 hr B') hh.1))
    · cases h
  · cases h
def fstD (g:Nat→Op) (n:Nat) (a b:Int):Mp:=(fstM g n a b).getD Mp.none
def fstB (g:Nat→Op) (n:Nat) (a b:Int):Bool:=(fstM g n a b).isSome
def findFV (k:Int) (n:Nat) (g:Nat→Op):Value:=.tuple ⟨[.agg ⟨[.int .i64 (fstD g n k k).kind,.int .i64 (fstD g n k k).addr,.int .i64 (fstD g n k k).prio,.int .i64 (fstD g n k k).num,.int .i64 (fstD g n k k).token,.int .i64 (fstD g n k k).nonce,.string (fstD g n k k).bytes]⟩,.bool (fstB g n k k)]⟩
def firstV (k l:Int) (n:Nat) (g:Nat→Op):Value:=.tuple ⟨[.agg ⟨[.int .i64 (fstD g n k l).kind,.int .i64 (fstD g n k l).addr,.int .i64 (fstD g n k l).prio,.int .i64 (fstD g n k l).num,.int .i64 (fstD g n k l).token,.int .i64 (fstD g n k l).nonce,.string (fstD g n k l).bytes]⟩,.bool (fstB g n k l)]⟩
def ctlV (L:List Mp):Value:=.tuple ⟨[.agg ⟨[.int .i64 (ctlN (L.find? (inK 7 10))),.int .i64 (ctlK (L.find? (inK 7 10))),.int .i64 (ctlA (L.find? (inK 7 10))),.int .i64 (ctlP (L.find? (inK 7 10)))]⟩,.bool (L.find? (inK 7 10)).isSome]⟩
def FFg:LTab:=addT 33 (fAllF) <| addT 63 (fLackF) <| addR 32 (rdMu ctlV) <| addR 34 (rdK findFV) <| addR 29 (rdKK firstV) <| noF
theorem FFg_ok:LOk Tryz.prog FFg:=addT_ok (addT_ok (addR_ok (addR_ok (addR_ok (noF_ok) (by kernel_rfl) (rdKK_ok fun k l n g v w hf h=>first_any k l hf h)) (by kernel_rfl) (rdK_ok fun k n g v w hf h=>mfind_any k hf h)) (by kernel_rfl) (rdMu_ok fun L v w hL h=>control_any hL h)) (by kernel_rfl) (fLackF_ok)) (by kernel_rfl) (fAllF_ok)
def tKnP:List Value→Option (List Prop×Value) | [.agg ⟨[.string a,.string b]⟩]=>some ([],.bool (knP a b)) | _=>none
def SFg  : Tab:=addS 35 tKnP <| addS 24 tData <| addS 36 tCtl <| addS 38 tCfm <| addS 47 tJoin <| addS 30 tTagR <| addS 31 tDataText <| addS 37 tCtlText <| addS 39 tCfmText <| addS 50 tJoinText <| noS
theorem SFg_ok:TabOk Tryz.prog (SFg):=by
  refine addS_ok (addS_ok (addS_ok (addS_ok (addS_ok (addS_ok (addS_ok (addS_ok (addS_ok (addS_ok (noS_ok) (by kernel_rfl) ?_) (by kernel_rfl) ?_) (by kernel_rfl) ?_) (by kernel_rfl) ?_) (by kernel_rfl) ?_) (by kernel_rfl) ?_) (by kernel_rfl) ?_) (by kernel_rfl) ?_) (by kernel_rfl) ?_) (by kernel_rfl) ?_
  · (intro xs p v h hp w;unfold tJoinText at h;(split at h) <;> first | (cases h;done) | (simp only [Option.some.injEq,Prod.mk.injEq] at h;obtain ⟨rfl,rfl⟩:=h;exact ref26_join _ _ _ _ _ w))
  · (intro xs p v h hp w;unfold tCfmText at h;(split at h) <;> first | (cases h;done) | (simp only [Option.some.injEq,Prod.mk.injEq] at h;obtain ⟨rfl,rfl⟩:=h;exact ref26_cfm _ _ w))
  · (intro xs p v h hp w;unfold tCtlText at h;(split at h) <;> first | (cases h;done) | (simp only [Option.some.injEq,Prod.mk.injEq] at h;obtain ⟨rfl,rfl⟩:=h;exact ref26_ctl _ _ _ _ _ w))
  · (intro xs p v h hp w;unfold tDataText at h;(split at h) <;> first | (cases h;done) | (simp only [Option.some.injEq,Prod.mk.injEq] at h;obtain ⟨rfl,rfl⟩:=h;exact ref26_data _ _ _ _ (hp _ (List.mem_cons_self ..)) w))
  · (intro xs p v h hp w;unfold tTagR at h;(split at h) <;> first | (cases h;done) | (simp only [Option.some.injEq,Prod.mk.injEq] at h;obtain ⟨rfl,rfl⟩:=h;exact ref26_tag _ _ _ (hp _ (List.mem_cons_self ..)) w))
  · (intro xs p v h hp w;unfold tJoin at h;(split at h) <;> first | (cases h;done) | (simp only [Option.some.injEq,Prod.mk.injEq] at h;obtain ⟨rfl,rfl⟩:=h;exact keys_Join _ _ _ _ _ _ _ (hp _ (List.mem_cons_self ..)) w))
  · (intro xs p v h hp w;unfold tCfm at h;(split at h) <;> first | (cases h;done) | (simp only [Option.some.injEq,Prod.mk.injEq] at h;obtain ⟨rfl,rfl⟩:=h;exact keys_Confirm _ _ _ _ (hp _ (List.mem_cons_self ..)) w))
  · (intro xs p v h hp w;unfold tCtl at h;(split at h) <;> first | (cases h;done) | (simp only [Option.some.injEq,Prod.mk.injEq] at h;obtain ⟨rfl,rfl⟩:=h;exact keys_Control _ _ _ _ _ _ _ (hp _ (List.mem_cons_self ..)) w))
  · (intro xs p v h hp w;unfold tData at h;(split at h) <;> first | (cases h;done) | (simp only [Option.some.injEq,Prod.mk.injEq] at h;obtain ⟨rfl,rfl⟩:=h;exact keys_Data _ _ _ _ _ _ (hp _ (List.mem_cons_self ..)) w))
  · (intro xs p v h hp w;unfold tKnP at h;(split at h) <;> first | (cases h;done) | (simp only [Option.some.injEq,Prod.mk.injEq] at h;obtain ⟨rfl,rfl⟩:=h;exact known_at _ _ w))
abbrev CFg (P:Program):Cfg:=both P SFg FFg [33,63,32,34,29]
theorem CFg_ok:CfgOk Tryz.prog (CFg Tryz.prog):=both_ok SFg_ok FFg_ok
end Go.Proofs.YthacfgaacleaeaaGreatDoor
namespace Go.Proofs.YthacfgaacleaeaaGreatDoor
open Go.IntKind (i64 u32)
open Go.RowKit Sym Sha Go.ChangeShapes Go.WideShapes Go.ChangeMaps
set_option maxRecDepth 100000 in
theorem dat_run (a b:ByteArray) (side:Int) (p:Pk) (n:Nat) (f:Nat→Nat→Value):runO Tryz.prog (CFg Tryz.prog) noL Tryz.f27 [.v (.agg ⟨[.string a,.string b]⟩),.v (.int .i64 side),p.s (.ref 0)] [.row n 2 f] =
 letI q:=allM (opF f) n;
 letI q0:T Value:=.leaf (Value.iface 126 (Value.agg (Array.mk [Value.int i64 2,Value.int i64 14])));
 letI q1:=cellsM q;
 letI q2:=(0:Int);
 letI q3:=a.size≤1000∧b.size≤1000∧p.12.size≤1000000;
 letI q4:=q2≤(2:Int)∧(2:Int) < (3:Int);
 letI q5:=q2≤(1:Int)∧(1:Int) < (3:Int);
 letI q6:=q2≤q2∧q2 < (3:Int);
 .ite (!knP a b) (.leaf (Value.iface 126 (Value.agg (Array.mk [Value.int i64 0,Value.int i64 10])))) (.need (OpP n f) (.need (q.length≤1000∧AllM q.length fun i j=>cellAt q1 (i * 7+j)) (.ite (lkB (lstM q.length fun i j=>cellAt q1 (i * 7+j))) (.need q4 (.need q6 (.need q5 (.need q3 (.ite (!decide ((fD (lstM q.length fun i j=>cellAt q1 (i * 7+j)) (5:Int)).7=tagP a b (dataText side (fD (lstM q.length fun i j=>cellAt q1 (i * 7+j)) (4:Int)).4 (fD (lstM q.length fun i j=>cellAt q1 (i * 7+j)) (6:Int)).4 p.12))) q0 (.leaf Value.nilIface)))))) (.ite true (.leaf (Value.iface 126 (Value.agg (Array.mk [Value.int i64 (lkI (lstM q.length fun i j=>cellAt q1 (i * 7+j))),Value.int i64 8])))) (.need q4 (.need q6 (.need q5 (.need q3 (.ite (!decide (lkT (lstM q.length fun i j=>cellAt q1 (i * 7+j)) 20=tagP a b (dataText side (lkN (lstM q.length fun i j=>cellAt q1 (i * 7+j)) 3) (lkN (lstM q.length fun i j=>cellAt q1 (i * 7+j)) 10) p.12))) q0 (.leaf Value.nilIface)))))))))):=by kernel_rfl
set_option maxRecDepth 100000 in
theorem says_run (a b:ByteArray) (side:Int) (p:Pk) (n:Nat) (f:Nat→Nat→Value):runO Tryz.prog (CFg Tryz.prog) noL Tryz.f13 [.v (.agg ⟨[.string a,.string b]⟩),.v (.int .i64 side),p.s (.ref 0)] [.row n 2 f] =
 letI q:=allM (opF f) n;
 letI q0:=inK (7:Int) (10:Int);
 letI q1:=cellsM q;
 letI q2:T Value:=.leaf (Value.bool false);
 letI q3:=(5:Int);
 .need (OpP n f) (.need (q.length≤1000∧AllM q.length fun i j=>cellAt q1 (i * 7+j)) (.need (OpP n f) (.ite (knP a b) (.ite (match List.find? q0 (lstM q.length fun i j=>cellAt q1 (i * 7+j)) with | some val=>true | none=>false) (.ite (fstB (opF f) n q3 q3) (.need (a.size≤1000∧b.size≤1000) (.leaf (Value.bool (decide ((fstD (opF f) n q3 q3).7=tagP a b (ctlText side (ctlN (List.find? q0 (lstM q.length fun i j=>cellAt q1 (i * 7+j)))) (ctlK (List.find? q0 (lstM q.length fun i j=>cellAt q1 (i * 7+j)))) (ctlA (List.find? q0 (lstM q.length fun i j=>cellAt q1 (i * 7+j)))) (ctlP (List.find? q0 (lstM q.length fun i j=>cellAt q1 (i * 7+j)))))))))) q2) q2) q2))):=by kernel_rfl
set_option maxRecDepth 100000 in
theorem hears_run (a b:ByteArray) (side:Int) (p:Pk) (n:Nat) (f:Nat→Nat→Value):runO Tryz.prog (CFg Tryz.prog) noL Tryz.f15 [.v (.agg ⟨[.string a,.string b]⟩),.v (.int .i64 side),p.s (.ref 0)] [.row n 2 f] =
 letI q:=(0:Int);
 letI q0:=fstD (opF f) n q q;
 .need (OpP n f) (.ite (knP a b) (.ite (fstB (opF f) n q q) (.need (a.size≤1000∧b.size≤1000) (.leaf (Value.bool (decide (q0.7=tagP a b (cfmText side q0.4)))))) (.leaf (Value.bool false))) (.leaf (Value.bool false))):=by kernel_rfl
theorem row_cellsM (L:List Mp) (i j:Nat) (hi:i < L.length) (hj:j < 7):cellAt (cellsM L) (i * 7+j)=rowM L i j:=by
  have e:=cellsM_at L i j hi hj
  have e2:mAt L i=L[i]:=by unfold mAt;rw [List.getD_eq_getElem?_getD,List.getElem?_eq_getElem hi];rfl
  unfold rowM
  rw [e2]
  have e3:(cellsM L)[i * 7+j]?=some (L[i].c j):=by
    rw [e]
    match j,hj with
    | 0,_=>rfl
    | 1,_=>rfl
    | 2,_=>rfl
    | 3,_=>rfl
    | 4,_=>rfl
    | 5,_=>rfl
    | 6,_=>rfl
  unfold cellAt
  rw [List.getD_eq_getElem?_getD,e3];rfl
theorem lst_congr (n:Nat) (f h:Nat→Nat→Value) (e:∀ i j,i < n→j < 7→f i j=h i j):lstM n f=lstM n h:=by
  unfold lstM
  apply List.map_congr_left
  intro i hi
  have hi:=List.mem_range.1 hi
  rw [e i 0 hi (by omega),e i 1 hi (by omega),e i 2 hi (by omega),e i 3 hi (by omega),e i 4 hi (by omega),e i 5 hi (by omega),e i 6 hi (by omega)]
theorem lst_cells (L:List Mp):(lstM L.length fun i j=>cellAt (cellsM L) (i * 7+j))=L:=by
  rw [lst_congr _ _ (rowM L) (fun i j hi hj=>row_cellsM L i j hi hj),lstM_row]
theorem all_cells (L:List Mp):AllM L.length fun i j=>cellAt (cellsM L) (i * 7+j):=fun i j hi hj=>by
  rw [lst_cells];exact row_cellsM L i j hi hj
def datV (a b:ByteArray) (side:Int) (L:List Mp) (data:ByteArray):Value :=
  if knP a b=false then .iface 126 (.agg #[.int .i64 0,.int .i64 10])
  else if lkB L=false then .iface 126 (.agg #[.int .i64 (lkI L),.int .i64 8])
  else if (fD L 5).bytes=tagP a b (dataText side (fD L 4).num (fD L 6).num data) then .nilIface else .iface 126 (.agg #[.int .i64 2,.int .i64 14])
theorem lkB_iff {L:List Mp}:lkB L=true ↔ fS L 4=true∧fS L 6=true∧fS L 5=true:=by
  unfold lkB;rw [Bool.and_eq_true,Bool.and_eq_true,and_assoc]
theorem datV_P (a b:ByteArray) (side:Int) (L:List Mp) (data:ByteArray):DatP (chkD a b side L data) (.returned (datV a b side L data)):=by
  unfold datV chkD DatP
  by_cases h1:knP a b=false
  · rw [if_pos h1,if_pos h1];exact .inr ⟨by decide,0,rfl⟩
  · rw [if_neg h1,if_neg h1]
    by_cases h2:lkB L=true
    · have c:=lkB_iff.1 h2
      have e1:(if lkB L=false then (Value.iface 126 (.agg #[.int .i64 (lkI L),.int .i64 8])) else if (fD L 5).bytes=tagP a b (dataText side (fD L 4).num (fD L 6).num data) then .nilIface else .iface 126 (.agg #[.int .i64 2,.int .i64 14]))=if (fD L 5).bytes=tagP a b (dataText side (fD L 4).num (fD L 6).num data) then .nilIface else .iface 126 (.agg #[.int .i64 2,.int .i64 14]):=if_neg (by rw [h2];decide)
      have e2:(if ¬ (fS L 4=true∧fS L 6=true∧fS L 5=true) then (8:Int) else if (fD L 5).bytes=tagP a b (dataText side (fD L 4).num (fD L 6).num data) then 0 else 14)=if (fD L 5).bytes=tagP a b (dataText side (fD L 4).num (fD L 6).num data) then 0 else 14:=if_neg (fun q=>q c)
      rw [e1,e2]
      by_cases h3:(fD L 5).bytes=tagP a b (dataText side (fD L 4).num (fD L 6).num data)
      · rw [if_pos h3,if_pos h3];exact .inl ⟨rfl,rfl⟩
      · rw [if_neg h3,if_neg h3];exact .inr ⟨by decide,2,rfl⟩
    · have h2':lkB L=false:=by simpa using h2
      rw [if_pos h2',if_pos (fun q=>h2 (lkB_iff.2 q):¬ (fS L 4=true∧fS L 6=true∧fS L 5=true))]
      exact .inr ⟨by decide,lkI L,rfl⟩
theorem pk_s_tos (a b:ByteArray) (side:Int) (p:Pk) (o:Value):SV.tos [o] [.v (.agg ⟨[.string a,.string b]⟩),.v (.int .i64 side),p.s (.ref 0)]=some [.agg ⟨[.string a,.string b]⟩,.int .i64 side,p.v o]:=by
  simp [SV.tos,SV.to,Pk.s,Pk.v]
set_option maxRecDepth 100000 in
theorem datagram_any {w:World} {o:Value} {n:Nat} {g:Nat→Op} (a b:ByteArray) (side:Int) (p:Pk) (hf:Few n g) (h:∀ B,BlkSat B w o (.row n 2 fun i j=>(g i).c j)) (hs:a.size≤1000∧b.size≤1000∧p.data.size≤1000000) :
    Calls Tryz.prog 27 #[.agg #[.string a,.string b],.int .i64 side,p.v o] w fun e w'=>DatP (chkD a b side (allM g n) p.data) e∧Below w.heap.size w w':=by
  have key:Calls Tryz.prog 27 #[.agg #[.string a,.string b],.int .i64 side,p.v o] w fun e w'=>e = .returned (datV a b side (allM g n) p.data)∧Below w.heap.size w w':=by
    refine calls_runO CFg_ok follows Tryz.func27 (by kernel_rfl) (by kernel_rfl) (noloops (by kernel_rfl)) (dat_run a b side p n fun i j=>(g i).c j) ?_ (mem_row (h [o])) (pk_s_tos a b side p o)
    have hO:OpP n fun i j=>(g i).c j:=⟨allOp_c n g,hf⟩
    rw [opF_c]
    have hL:(allM g n).length≤1000:=Nat.le_trans (allM_len g n) hf.1
    have hA:=all_cells (allM g n)
    rw [lst_cells]
    unfold datV
    refine ⟨fun q=>?_,fun q=>⟨hO,⟨hL,hA⟩,fun q2=>⟨⟨by omega,by omega⟩,⟨by omega,by omega⟩,⟨by omega,by omega⟩,hs,fun q3=>?_,fun q3=>?_⟩,fun q2=>⟨fun _=>?_,fun q3=>by cases q3⟩⟩⟩
    · have q:knP a b=false:=by simpa using q
      rw [if_pos q];rfl
    · have q:¬ knP a b=false:=by simpa using q
      have q3:¬ _:=of_decide_eq_false (by simpa using q3:decide ((fD (allM g n) 5).bytes=tagP a b (dataText side (fD (allM g n) 4).num (fD (allM g n) 6).num p.data))=false)
      rw [if_neg q,if_neg (by rw [q2];decide),if_neg q3];rfl
    · have q:¬ knP a b=false:=by simpa using q
      have q3:=of_decide_eq_true (by simpa using q3:decide ((fD (allM g n) 5).bytes=tagP a b (dataText side (fD (allM g n) 4).num (fD (allM g n) 6).num p.data))=true)
      rw [if_neg q,if_neg (by rw [q2];decide),if_pos q3];rfl
    · have q:¬ knP a b=false:=by simpa using q
      rw [if_neg q,if_pos q2];rfl
  refine key.mono ?_
  rintro e w' ⟨rfl,hb⟩
  exact ⟨datV_P _ _ _ _ _,hb⟩
def chkG (kn:Bool) (tag:ByteArray→ByteArray) (side:Int) (g:Nat→Op) (n:Nat) (data:ByteArray):Int :=
  if kn=false then 10 else if ¬ (fstB g n 4 4=true∧fstB g n 6 6=true∧fstB g n 5 5=true) then 8
  else if (fstD g n 5 5).bytes=tag (dataText side (fstD g n 4 4).num (fstD g n 6 6).num data) then 0 else 14
def saysG (kn:Bool) (tag:ByteArray→ByteArray) (side:Int) (g:Nat→Op) (n:Nat):Bool :=
  kn && (fstB g n 7 10 && (fstB g n 5 5 && decide ((fstD g n 5 5).bytes=tag (ctlText side (fstD g n 7 10).num ((fstD g n 7 10).kind - 6) (fstD g n 7 10).addr (fstD g n 7 10).prio))))
def hearsG (kn:Bool) (tag:ByteArray→ByteArray) (side:Int) (g:Nat→Op) (n:Nat):Bool :=
  kn && (fstB g n 0 0 && decide ((fstD g n 0 0).bytes=tag (cfmText side (fstD g n 0 0).num)))
theorem ctl_some {g:Nat→Op} {n:Nat} (h:fstB g n 7 10=true):ctlK ((allM g n).find? (inK 7 10))=(fstD g n 7 10).kind - 6∧7≤(fstD g n 7 10).kind∧(fstD g n 7 10).kind≤10:=by
  unfold fstB at h
  obtain ⟨m,hm⟩:=Option.isSome_iff_exists.1 h
  have e:fstD g n 7 10=m:=by unfold fstD;rw [hm];rfl
  have hm':(allM g n).find? (inK 7 10)=some m:=hm
  have:=inK_iff.1 (List.find?_some hm')
  rw [hm',e]
  exact ⟨rfl,this⟩
theorem ctl_get (g:Nat→Op) (n:Nat):ctlN ((allM g n).find? (inK 7 10))=(fstD g n 7 10).num∧ctlA ((allM g n).find? (inK 7 10))=(fstD g n 7 10).addr∧ctlP ((allM g n).find? (inK 7 10))=(fstD g n 7 10).prio:=⟨rfl,rfl,rfl⟩
set_option maxRecDepth 100000 in
theorem says_any {w:World} {o:Value} {n:Nat} {g:Nat→Op} (a b:ByteArray) (side:Int) (p:Pk) (hf:Few n g) (h:∀ B,BlkSat B w o (.row n 2 fun i j=>(g i).c j)) (hs:a.size≤1000∧b.size≤1000) :
    Calls Tryz.prog 13 #[.agg #[.string a,.string b],.int .i64 side,p.v o] w fun e w'=>e = .returned (.bool (saysG (knP a b) (tagP a b) side g n))∧Below w.heap.size w w':=by
  refine calls_runO CFg_ok follows Tryz.func13 (by kernel_rfl) (by kernel_rfl) (noloops (by kernel_rfl)) (says_run a b side p n fun i j=>(g i).c j) ?_ (mem_row (h [o])) (pk_s_tos a b side p o)
  have hO:OpP n fun i j=>(g i).c j:=⟨allOp_c n g,hf⟩
  rw [opF_c]
  have hL:(allM g n).length≤1000:=Nat.le_trans (allM_len g n) hf.1
  have hA:=all_cells (allM g n)
  obtain ⟨c1,c2,c3⟩:=ctl_get g n
  have c0:=@ctl_some g n
  rw [lst_cells,c1,c2,c3]
  have hB:(allM g n).find? (inK 7 10)=fstM g n 7 10:=rfl
  unfold saysG
  refine ⟨hO,⟨hL,hA⟩,hO,fun q1=>⟨fun q2=>⟨fun q3=>⟨hs,?_⟩,fun q3=>?_⟩,fun q2=>?_⟩,fun q1=>?_⟩
  · have q2:fstB g n 7 10=true:=by rw [← q2];unfold fstB;rw [← hB];cases (allM g n).find? (inK 7 10) <;> rfl
    rw [(c0 q2).1,q1,q2,q3];rfl
  · rw [q3];simp [T.ok]
  · have q2:fstB g n 7 10=false:=by rw [← q2];unfold fstB;rw [← hB];cases (allM g n).find? (inK 7 10) <;> rfl
    rw [q2];simp [T.ok]
  · rw [q1];rfl
set_option maxRecDepth 100000 in
theorem hears_any {w:World} {o:Value} {n:Nat} {g:Nat→Op} (a b:ByteArray) (side:Int) (p:Pk) (hf:Few n g) (h:∀ B,BlkSat B w o (.row n 2 fun i j=>(g i).c j)) (hs:a.size≤1000∧b.size≤1000) :
    Calls Tryz.prog 15 #[.agg #[.string a,.string b],.int .i64 side,p.v o] w fun e w'=>e = .returned (.bool (hearsG (knP a b) (tagP a b) side g n))∧Below w.heap.size w w':=by
  refine calls_runO CFg_ok follows Tryz.func15 (by kernel_rfl) (by kernel_rfl) (noloops (by kernel_rfl)) (hears_run a b side p n fun i j=>(g i).c j) ?_ (mem_row (h [o])) (pk_s_tos a b side p o)
  have hO:OpP n fun i j=>(g i).c j:=⟨allOp_c n g,hf⟩
  rw [opF_c]
  unfold hearsG
  refine ⟨hO,fun q1=>⟨fun q2=>⟨hs,?_⟩,fun q2=>?_⟩,fun q1=>?_⟩
  · rw [q1,q2];rfl
  · rw [q2];simp [T.ok]
  · rw [q1];rfl
end Go.Proofs.YthacfgaacleaeaaGreatDoor
namespace Go.Proofs.YthacfgaacleaeaaGreatDoor
open Go.IntKind (i64 u32)
open Go.RowKit Sym
theorem row_belowF {w w':World} {v:Value} {n:Nat} {f:Nat→Nat→Value} (h:∀ B,BlkSat B w v (.row n 2 f)) (hb:Below w.heap.size w w'):∀ B,BlkSat B w' v (.row n 2 f):=fun B=>by
  obtain ⟨p,cap,rfl,h1,h2,h3⟩:=h B
  refine ⟨p,cap,rfl,h1,h2,fun i j hi hj=>?_⟩
  obtain ⟨a,rfl,hc⟩:=h3 i j hi hj
  exact ⟨a,rfl,old_cell hb hc⟩
set_option maxRecDepth 100000 in
set_option maxHeartbeats 4000000 in
theorem check_any {w:World} {o:Value} {n:Nat} {g:Nat→Op} (a b:ByteArray) (side:Int) (p:Pk) (hE:ErrT w) (hf:Few n g) (h:∀ B,BlkSat B w o (.row n 2 fun i j=>(g i).c j)) (hs:a.size≤1000∧b.size≤1000∧p.data.size≤1000000) :
    Calls Tryz.prog 11 #[.agg #[.string a,.string b],.int .i64 side,p.v o] w fun e w'=>e = .returned (.int .i64 (chkG (knP a b) (tagP a b) side g n p.data))∧Below w.heap.size w w':=by
  have hdat:∀ W,Below w.heap.size w W→Calls Tryz.prog 27 #[.agg #[.string a,.string b],.int .i64 side,p.v o] W fun e w'=>DatP (chkG (knP a b) (tagP a b) side g n p.data) e∧Below W.heap.size W w':=fun W hb=>datagram_any a b side p hf (row_belowF h hb) hs
  generalize chkG (knP a b) (tagP a b) side g n p.data=Z at *
  unfold Pk.v at *
  obtain ⟨pk,pl,ps,pd,pc,pv,pq,pa,pe,po,pt,px⟩:=p
  dsimp only at hdat hs ⊢
  clear hs h
  by_cases hZ:Z=0
  · subst hZ
    have hdat:∀ W,Below w.heap.size w W→Calls Tryz.prog 27 #[.agg #[.string a,.string b],.int .i64 side,.agg #[.int .i64 pk,.bool pl,.int .i64 ps,.int .i64 pd,.int .i64 pc,.int .i64 pv,.int .i64 pq,.int .i64 pa,.int .i64 pe,.int .i64 po,.int .i64 pt,o,.string px]] W fun e w'=>e = .returned .nilIface∧Below W.heap.size W w':=fun W hb=>(hdat W hb).mono fun e w' ⟨hP,hb⟩=>by
      rcases hP with ⟨-,he⟩ | ⟨hn,-⟩
      · exact ⟨he,hb⟩
      · exact absurd rfl hn
    go_enter Tryz.func11,Tryz.ntmps11
    go_wp2_with (first
      | (go_at_call 27;refine (hdat _ (by (repeat' (first | (with_reducible exact Below.refl _ _) | (with_reducible refine below_alloc ?_ _) | (with_reducible refine Below.drew ?_) | (with_reducible refine below_drewN ?_ _) | (with_reducible refine Below.setCell ?_ ?_ _) | (with_reducible assumption) | (with_reducible refine below_of ?_ (by assumption)) | omega | (simp only [World.size_alloc,World.size_setCell,World.size_drew,size_drewN] at *;omega) | (simp;omega))))).mono ?_;rintro e w1 ⟨rfl,hb⟩;have hbw:Below w.heap.size w w1:=below_of (by (repeat' (first | (with_reducible exact Below.refl _ _) | (with_reducible refine below_alloc ?_ _) | (with_reducible refine Below.drew ?_) | (with_reducible refine below_drewN ?_ _) | (with_reducible refine Below.setCell ?_ ?_ _) | (with_reducible assumption) | (with_reducible refine below_of ?_ (by assumption)) | omega | (simp only [World.size_alloc,World.size_setCell,World.size_drew,size_drewN] at *;omega) | (simp;omega)))) hb))
    go_ret
    exact ⟨rfl,hbw⟩
  · have hdat:∀ W,Below w.heap.size w W→Calls Tryz.prog 27 #[.agg #[.string a,.string b],.int .i64 side,.agg #[.int .i64 pk,.bool pl,.int .i64 ps,.int .i64 pd,.int .i64 pc,.int .i64 pv,.int .i64 pq,.int .i64 pa,.int .i64 pe,.int .i64 po,.int .i64 pt,o,.string px]] W fun e w'=>(∃ part,e = .returned (.iface 126 (.agg #[.int .i64 part,.int .i64 Z])))∧Below W.heap.size W w':=fun W hb=>(hdat W hb).mono fun e w' ⟨hP,hb⟩=>by
      rcases hP with ⟨h0,-⟩ | ⟨-,hp⟩
      · exact absurd h0 hZ
      · exact ⟨hp,hb⟩
    go_enter Tryz.func11,Tryz.ntmps11
    go_wp2_with (first
      | (go_at_call 27;refine (hdat _ (by (repeat' (first | (with_reducible exact Below.refl _ _) | (with_reducible refine below_alloc ?_ _) | (with_reducible refine Below.drew ?_) | (with_reducible refine below_drewN ?_ _) | (with_reducible refine Below.setCell ?_ ?_ _) | (with_reducible assumption) | (with_reducible refine below_of ?_ (by assumption)) | omega | (simp only [World.size_alloc,World.size_setCell,World.size_drew,size_drewN] at *;omega) | (simp;omega))))).mono ?_;rintro e w1 ⟨⟨part,rfl⟩,hb⟩;have hbw:Below w.heap.size w w1:=below_of (by (repeat' (first | (with_reducible exact Below.refl _ _) | (with_reducible refine below_alloc ?_ _) | (with_reducible refine Below.drew ?_) | (with_reducible refine below_drewN ?_ _) | (with_reducible refine Below.setCell ?_ ?_ _) | (with_reducible assumption) | (with_reducible refine below_of ?_ (by assumption)) | omega | (simp only [World.size_alloc,World.size_setCell,World.size_drew,size_drewN] at *;omega) | (simp;omega)))) hb;have hz:=hb.size;(try simp only [World.size_alloc,World.size_setCell,World.size_drew,size_drewN] at hz);apply own_step (B:=w.heap.size+1+1) hb;(focus (repeat (first | (with_reducible assumption) | (with_reducible exact own_new _ _ _) | ((with_reducible apply own_new');focus (first | omega | (simp;done) | (simp;omega))) | (with_reducible apply own_drewN) | (with_reducible apply own_drew) | (with_reducible apply own_alloc) | (with_reducible apply own_setT) | ((with_reducible apply own_set_otherH);focus (first | (simp;done) | (simp;omega))))));intro hO0;have hk0:=hO0.2.1;have hl0:=hO0.1;have hf0:=hO0.2.2;(try simp only [List.setIfInBounds_toArray,List.set_cons_zero,List.set_cons_succ] at hO0 hk0))
      | (go_at_call 28;refine (as_any part Z ⟨w.heap.size+1+1,0,none⟩ _ w1 (hE.below hbw) (hk0 0) (hf0 0)).mono ?_;rintro e w2 ⟨rfl,W1,hbW,rfl⟩;have hbx:Below w.heap.size w W1:=below_of hbw hbW;have hOx:=own_set (own_below hO0 hbW) 0 (by simp) (.int .i64 Z);have hcx:=hOx.2.1 0))
    go_ret
    exact ⟨rfl,by (repeat' (first | (with_reducible exact Below.refl _ _) | (with_reducible refine below_alloc ?_ _) | (with_reducible refine Below.drew ?_) | (with_reducible refine below_drewN ?_ _) | (with_reducible refine Below.setCell ?_ ?_ _) | (with_reducible assumption) | (with_reducible refine below_of ?_ (by assumption)) | omega | (simp only [World.size_alloc,World.size_setCell,World.size_drew,size_drewN] at *;omega) | (simp;omega)))⟩
end Go.Proofs.YthacfgaacleaeaaGreatDoor
namespace Go.Proofs.YthacfgaacleaeaaGreatDoor
open Go.IntKind (i64 u32)
open Go.RowKit Sym Sha Go.ChangeShapes Go.WideShapes Go.ChangeMaps
structure MpF2 where
  nchk:Func
  bchk:Func
  nput:Func
  bput:Func
  spare:Func
  chk:Func
  cont:Func
  idx:Func
def FPm0 (P:Program) (N:MpFn) (M:MpF2):LTab:=addT 149 (inl P (onlyS P noS) noL N.num) <| addT 100 (inl P (onlyS P noS) noL N.of) <| addT 233 (inl P (onlyS P noS) (addL 0 (unrollB (runC P (onlyS P noS) noL M.idx.ntmps (loopAt M.idx 0)) 0 4) noL) M.idx) noF
abbrev CPm0 (P:Program) (N:MpFn) (M:MpF2):Cfg:=both P SOct (FPm0 P N M) [149,100,233]
def FPm1 (P:Program) (N:MpFn) (M:MpF2):LTab:=addT 232 (inl P (CPm0 P N M) noL M.cont) <| FPm0 P N M
abbrev CPm1 (P:Program) (N:MpFn) (M:MpF2):Cfg:=both P SOct (FPm1 P N M) [149,100,233,232]
def FPm2 (P:Program) (N:MpFn) (M:MpF2):LTab:=addT 226 (inl P (CPm1 P N M) noL M.nchk) <| addT 229 (inl P (CPm1 P N M) noL M.bchk) <| addT 227 (inl P (CPm1 P N M) noL M.nput) <| addT 230 (inl P (CPm1 P N M) noL M.bput) <| addT 148 (inl P (CPm1 P N M) (addL 0 (unrollB (runC P (CPm1 P N M) noL M.spare.ntmps (loopAt M.spare 0)) 0 4) noL) M.spare) <| FPm1 P N M
abbrev CPm2 (P:Program) (N:MpFn) (M:MpF2):Cfg:=both P SOct (FPm2 P N M) [149,100,233,232,226,229,227,230,148]
def FPm3 (P:Program) (N:MpFn) (M:MpF2):LTab:=addT 99 (inl P (CPm2 P N M) (addL 0 (unrollB (runC P (CPm2 P N M) noL M.chk.ntmps (loopAt M.chk 0)) 0 4) noL) M.chk) <| FPm2 P N M
abbrev CPm3 (P:Program) (N:MpFn) (M:MpF2):Cfg:=both P SOct (FPm3 P N M) [149,100,233,232,226,229,227,230,148,99]
def LPm (P:Program) (N:MpFn) (M:MpF2) (put:Func):Nat→St→Option (T (Ex×St)):=addL 0 (unrollB (runC P (CPm3 P N M) noL put.ntmps (loopAt put 0)) 0 4) noL
set_option maxRecDepth 100000 in
theorem put4_run (z:Int):runO Tryz.prog (CPm3 Tryz.prog (MpFn.mk Tryz.f149 Tryz.f150 Tryz.f153 Tryz.f151 Tryz.f152 Tryz.f100 Tryz.f228 Tryz.f231) (MpF2.mk Tryz.f226 Tryz.f229 Tryz.f227 Tryz.f230 Tryz.f148 Tryz.f99 Tryz.f232 Tryz.f233)) (LPm Tryz.prog (MpFn.mk Tryz.f149 Tryz.f150 Tryz.f153 Tryz.f151 Tryz.f152 Tryz.f100 Tryz.f228 Tryz.f231) (MpF2.mk Tryz.f226 Tryz.f229 Tryz.f227 Tryz.f230 Tryz.f148 Tryz.f99 Tryz.f232 Tryz.f233) Tryz.f54) Tryz.f54 [.agg [.c (.int .i64 4),.c (.int .i64 0),.c (.int .i64 0),.v (.int .i64 z),.c (.int .i64 0),.c (.int .i64 0),.c (.string ⟨⟨[]⟩⟩)]] [] =
 letI q5:=(0:Int);
 letI q8:=(1:Int);
 letI q1:=q5≤q5∧q5 < q8;
 letI p6:=Value.int i64 0;
 letI q:T Value:=.need (q5≤q8∧q8≤(8:Int)∧0≤1099511627776) (.need q1 (.need (q5≤(6:Int)∧(6:Int)≤(8:Int)∧1≤1099511627776) (.leaf (Value.tuple (Array.mk [Value.agg (Array.mk [Value.int i64 46,Value.string (Oct.put (ByteArray.mk (Array.mk ((Array.mk []).toList++Oct.be 4 1))) z (6:Int))]),p6])))));
 letI q0:=Value.agg (Array.mk [p6,Value.string (ByteArray.mk (Array.mk []))]);
 letI q2:T Value:=.leaf (Value.tuple (Array.mk [q0,Value.int i64 3]));
 letI q3:T Value:=.leaf (Value.tuple (Array.mk [q0,Value.int i64 4]));
 letI q4:T Value:=.leaf (Value.tuple (Array.mk [q0,Value.int i64 11]));
 letI q6:T Value:=.ite (!(true && (true && (true && (decide (z=q5) && true))))) q3 q;
 letI p4:=(2:Int);
 letI q7:=q5≤q5∧q5 < p4;
 letI q9:T Value:=.need q1 (.ite false q3 q);
 letI p:T Value:=.ite false (.need (q5≤q8∧q8 < q8) (.need (1 < 1) (T.stuck 61))) q4;
 letI p0:=decide (z < q5);
 letI p1:=q5≤q8∧q8 < p4;
 letI p5:=T.stuck 2150;
 letI p2:T Value:=.need (q5≤q5∧q5 < (3:Int)) p5;
 letI p3:=!decide (z.fdiv (4294967296:Int)=q5);
 .ite false (.need q7 (.ite p0 q2 (.ite p3 q2 (.need p1 (.ite true (.need q1 (.need (0 < 1) (.ite false (.need q7 (.need p1 (.ite false q3 q))) p))) q4))))) (.ite false p2 (.ite false (.need q1 (.ite true (.need q7 (.need (0 < 2) (.ite false (.need q1 q6) (.ite true (.need p1 (.need (1 < 2) (.ite false (.need q1 q6) (.ite false (.need (q5≤p4∧p4 < p4) (.need (2 < 2) (T.stuck 61))) q4)))) q4)))) q4)) (.ite true (.need q1 (.ite p0 q2 (.ite (!decide (z.fdiv (281474976710656:Int)=q5)) q2 q9))) (.ite false (.need q1 (.ite true (.need q1 (.need (0 < 1) (.ite false (.need q1 q6) p))) q4)) (.ite false (.need q1 (.ite p0 q2 (.ite (!decide (z.fdiv (65536:Int)=q5)) q2 q9))) (.ite false (.need q7 p5) (.ite false (.need q7 p5) (.ite false p2 (.ite false (.need q1 (.ite p0 q2 (.ite p3 q2 q9))) (.ite false (.need q1 (.ite p0 q2 (.ite (!decide (z.fdiv (256:Int)=q5)) q2 q9))) (.ite true (.leaf (Value.tuple (Array.mk [q0,Value.int i64 7]))) (.ite false (T.stuck 2) (.ite false (T.stuck 2) q6))))))))))))):=by kernel_rfl
set_option maxRecDepth 100000 in
theorem put6_run (z:Int):runO Tryz.prog (CPm3 Tryz.prog (MpFn.mk Tryz.f149 Tryz.f150 Tryz.f153 Tryz.f151 Tryz.f152 Tryz.f100 Tryz.f228 Tryz.f231) (MpF2.mk Tryz.f226 Tryz.f229 Tryz.f227 Tryz.f230 Tryz.f148 Tryz.f99 Tryz.f232 Tryz.f233)) (LPm Tryz.prog (MpFn.mk Tryz.f149 Tryz.f150 Tryz.f153 Tryz.f151 Tryz.f152 Tryz.f100 Tryz.f228 Tryz.f231) (MpF2.mk Tryz.f226 Tryz.f229 Tryz.f227 Tryz.f230 Tryz.f148 Tryz.f99 Tryz.f232 Tryz.f233) Tryz.f54) Tryz.f54 [.agg [.c (.int .i64 6),.c (.int .i64 0),.c (.int .i64 0),.v (.int .i64 z),.c (.int .i64 0),.c (.int .i64 0),.c (.string ⟨⟨[]⟩⟩)]] [] =
 letI q5:=(0:Int);
 letI q8:=(1:Int);
 letI q1:=q5≤q5∧q5 < q8;
 letI p:=(2:Int);
 letI p6:=Value.int i64 0;
 letI q:T Value:=.need (q5≤q8∧q8≤(8:Int)∧0≤1099511627776) (.need q1 (.need (q5≤p∧p≤(8:Int)∧1≤1099511627776) (.leaf (Value.tuple (Array.mk [Value.agg (Array.mk [Value.int i64 46,Value.string (Oct.put (ByteArray.mk (Array.mk ((Array.mk []).toList++Oct.be 6 1))) z p)]),p6])))));
 letI q0:=Value.agg (Array.mk [p6,Value.string (ByteArray.mk (Array.mk []))]);
 letI q2:T Value:=.leaf (Value.tuple (Array.mk [q0,Value.int i64 3]));
 letI q3:T Value:=.leaf (Value.tuple (Array.mk [q0,Value.int i64 4]));
 letI q4:T Value:=.leaf (Value.tuple (Array.mk [q0,Value.int i64 11]));
 letI q6:T Value:=.ite (!(true && (true && (true && (decide (z=q5) && true))))) q3 q;
 letI q7:=q5≤q5∧q5 < p;
 letI q9:T Value:=.need q1 (.ite false q3 q);
 letI p0:T Value:=.ite false (.need (q5≤q8∧q8 < q8) (.need (1 < 1) (T.stuck 61))) q4;
 letI p1:=decide (z < q5);
 letI p5:=T.stuck 2150;
 letI p2:T Value:=.need (q5≤q5∧q5 < (3:Int)) p5;
 letI p3:=!decide (z.fdiv (4294967296:Int)=q5);
 letI p4:=q5≤q8∧q8 < p;
 .ite false (.need q7 (.ite p1 q2 (.ite p3 q2 (.need p4 (.ite true (.need q1 (.need (0 < 1) (.ite false (.need q7 (.need p4 (.ite false q3 q))) p0))) q4))))) (.ite false p2 (.ite false (.need q1 (.ite true (.need q7 (.need (0 < 2) (.ite false (.need q1 q6) (.ite true (.need p4 (.need (1 < 2) (.ite false (.need q1 q6) (.ite false (.need (q5≤p∧p < p) (.need (2 < 2) (T.stuck 61))) q4)))) q4)))) q4)) (.ite false (.need q1 (.ite p1 q2 (.ite (!decide (z.fdiv (281474976710656:Int)=q5)) q2 q9))) (.ite false (.need q1 (.ite true (.need q1 (.need (0 < 1) (.ite false (.need q1 q6) p0))) q4)) (.ite true (.need q1 (.ite p1 q2 (.ite (!decide (z.fdiv (65536:Int)=q5)) q2 q9))) (.ite false (.need q7 p5) (.ite false (.need q7 p5) (.ite false p2 (.ite false (.need q1 (.ite p1 q2 (.ite p3 q2 q9))) (.ite false (.need q1 (.ite p1 q2 (.ite (!decide (z.fdiv (256:Int)=q5)) q2 q9))) (.ite true (.leaf (Value.tuple (Array.mk [q0,Value.int i64 7]))) (.ite false (T.stuck 2) (.ite false (T.stuck 2) q6))))))))))))):=by kernel_rfl
set_option maxRecDepth 100000 in
theorem put5_run (s:ByteArray):runO Tryz.prog (CPm3 Tryz.prog (MpFn.mk Tryz.f149 Tryz.f150 Tryz.f153 Tryz.f151 Tryz.f152 Tryz.f100 Tryz.f228 Tryz.f231) (MpF2.mk Tryz.f226 Tryz.f229 Tryz.f227 Tryz.f230 Tryz.f148 Tryz.f99 Tryz.f232 Tryz.f233)) (LPm Tryz.prog (MpFn.mk Tryz.f149 Tryz.f150 Tryz.f153 Tryz.f151 Tryz.f152 Tryz.f100 Tryz.f228 Tryz.f231) (MpF2.mk Tryz.f226 Tryz.f229 Tryz.f227 Tryz.f230 Tryz.f148 Tryz.f99 Tryz.f232 Tryz.f233) Tryz.f54) Tryz.f54 [.agg [.c (.int .i64 5),.c (.int .i64 0),.c (.int .i64 0),.c (.int .i64 0),.c (.int .i64 0),.c (.int .i64 0),.v (.string s)]] [] =
 letI q5:=(0:Int);
 letI q9:=(1:Int);
 letI q2:=q5≤q5∧q5 < q9;
 letI p8:=Value.int i64 0;
 letI p7:=Array.mk [];
 letI q1:=Value.agg (Array.mk [p8,Value.string (ByteArray.mk p7)]);
 letI q6:T Value:=.leaf (Value.tuple (Array.mk [q1,Value.int i64 3]));
 letI q4:T Value:=.leaf (Value.tuple (Array.mk [q1,Value.int i64 4]));
 letI q0:T Value:=.need (q5≤q9∧q9≤(8:Int)∧0≤1099511627776) (.need q2 (.need (1+s.size≤9223372036854775807) (.leaf (Value.tuple (Array.mk [Value.agg (Array.mk [Value.int i64 46,Value.string (ByteArray.mk (Array.mk (p7.toList++Oct.be 5 1))++s)]),p8])))));
 letI q7:T Value:=.ite (!(true && (true && (true && (true && (true && (true && (decide (s=ByteArray.mk p7) && true)))))))) q4 q0;
 letI q:T Value:=.need q2 (.ite false q6 (.ite false q6 (.need q2 q7)));
 letI q3:T Value:=.leaf (Value.tuple (Array.mk [q1,Value.int i64 11]));
 letI p4:=(2:Int);
 letI q8:=q5≤q5∧q5 < p4;
 letI p:T Value:=.ite false (.need (q5≤q9∧q9 < q9) (.need (1 < 1) (T.stuck 61))) q3;
 letI p0:=q5≤q9∧q9 < p4;
 letI p1:T Value:=.need q2 (.ite false q4 q0);
 letI p2:=(↑s.size:Int);
 letI p6:=T.stuck 2150;
 letI p3:T Value:=.need (q5≤q5∧q5 < (3:Int)) p6;
 letI p5:=decide (p2=(32:Int));
 .ite false (.need q8 (.ite false q6 (.ite false q6 (.need p0 (.ite true (.need q2 (.need (0 < 1) (.ite p5 (.need q8 (.need p0 (.ite false q4 q0))) p))) q3))))) (.ite false p3 (.ite false (.need q2 (.ite true (.need q8 (.need (0 < 2) (.ite (decide (p2=(8:Int))) p1 (.ite true (.need p0 (.need (1 < 2) (.ite (decide (p2=(16:Int))) p1 (.ite false (.need (q5≤p4∧p4 < p4) (.need (2 < 2) (T.stuck 61))) q3)))) q3)))) q3)) (.ite false q (.ite true (.need q2 (.ite true (.need q2 (.need (0 < 1) (.ite p5 p1 p))) q3)) (.ite false q (.ite false (.need q8 p6) (.ite false (.need q8 p6) (.ite false p3 (.ite false q (.ite false q (.ite true (.leaf (Value.tuple (Array.mk [q1,Value.int i64 7]))) (.ite false (T.stuck 2) (.ite false (T.stuck 2) q7))))))))))))):=by kernel_rfl
end Go.Proofs.YthacfgaacleaeaaGreatDoor
namespace Go.Proofs.YthacfgaacleaeaaGreatDoor
open Go.IntKind (i64 u32)
open Go.RowKit Sym Go.ChangeShapes Go.WideShapes Go.ChangeMaps Inet
end Go.Proofs.YthacfgaacleaeaaGreatDoor
namespace Go.Proofs.YthacfgaacleaeaaGreatDoor
open Go.IntKind (i64 u32)
open Go.RowKit Sym Go.ChangeShapes Go.WideShapes Go.ChangeMaps Inet
end Go.Proofs.YthacfgaacleaeaaGreatDoor
namespace Go.Proofs.YthacfgaacleaeaaGreatDoor
open Go.IntKind (i64 u32)
open Go.RowKit Sym
theorem t_need {α:Type} {p:Prop} {t:T α} {Q:α→Prop} (h:p) (ht:t.ok Q):(T.need p t).ok Q:=⟨h,ht⟩
theorem t_ite {α:Type} {b:Bool} {t e:T α} {Q:α→Prop} (h:b=true→t.ok Q) (he:b=false→e.ok Q):(T.ite b t e).ok Q:=⟨h,he⟩
theorem t_leaf {α:Type} {a:α} {Q:α→Prop} (h:Q a):(T.leaf a).ok Q:=h
end Go.Proofs.YthacfgaacleaeaaGreatDoor

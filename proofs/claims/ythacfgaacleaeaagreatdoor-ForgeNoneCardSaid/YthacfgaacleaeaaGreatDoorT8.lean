/- Parts of a proof: FhK,FhL,FhP,FhV. No conditions. -/
import Derived.Test.YthacfgaacleaeaaGreatDoorT7
import Derived.LaidMore
import Derived.SliceStrings
import Derived.ChangeMaps5
import Derived.Deep.RegionWith
import Derived.Deep.RegionHeld3
import Derived.Deep.AppendLies
set_option linter.unusedVariables false
set_option linter.unusedSimpArgs false
namespace Go.Proofs.YthacfgaacleaeaaGreatDoor
open Go.ChangeShapes Go.WideShapes Go.ChangeAt Go.RowKit Sym Go.ChangeMaps
def unF (f:Nat → Nat → Value) (i:Nat):Un:=⟨intV (f i 0),intV (f i 1),intV (f i 2),strV (f i 3)⟩
set_option maxRecDepth 100000 in
theorem open_unders {H:Type} {enc:TypeId × Value → H} {W:World} {base b0:Nat} {r:Reach} {v:Value} {d:DataW H} {p:List MemPlace} {sp:Nat → Bool} (hv:Value.okWide Tryz.prog W r b0 38 v) (h:DataW.Trod enc Tryz.prog W base sp true 38 v d p) :
    ∃ (n:Nat) (g:Nat → Un),n ≤ maxLen ∧ (∀ i,i < n → (g i).data.size ≤ maxLen) ∧ IsRows W 4 v n fun i j=>(g i).c j:=by
  obtain ⟨len,f,h1,h2,h3⟩:=open_rows_of 4 (by kernel_rfl) (by omega) Tryz.underlying38 (okWide_slice Tryz.underlying38 hv) h
  have hs:∀ i,i < len → (∀ j,j < 4 → f i j = (unF f i).c j) ∧ (unF f i).data.size ≤ maxLen:=by
    intro i hi
    obtain ⟨fuel,x,hx⟩:=h3 i hi
    obtain ⟨xs,n,_,_,_,hlen,hg⟩:=DataW.trod_struct Tryz.underlying42 hx
    have ci:Tryz.prog.cellsOf 3 = 1:=by kernel_rfl
    have cp:Tryz.prog.cellsOf 40 = 2:=by kernel_rfl
    have cst:Tryz.prog.cellsOf 9 = 1:=by kernel_rfl
    obtain ⟨u0,hu0⟩:∃ u,xs[0]? = some u:=⟨_,List.getElem?_eq_getElem (by rw [hlen]; decide)⟩
    obtain ⟨u1,hu1⟩:∃ u,xs[1]? = some u:=⟨_,List.getElem?_eq_getElem (by rw [hlen]; decide)⟩
    obtain ⟨u2,hu2⟩:∃ u,xs[2]? = some u:=⟨_,List.getElem?_eq_getElem (by rw [hlen]; decide)⟩
    rw [← hg 0 _ rfl] at hu0
    rw [← hg 1 _ rfl] at hu1
    rw [← hg 2 _ rfl] at hu2
    simp [List.range_succ,ci,cp,cst] at hu0 hu1 hu2
    obtain ⟨z,e0,_,_⟩:=DataW.trod_int Tryz.underlying3 hu0
    obtain ⟨ys,m,_,_,_,hlen2,hg2⟩:=DataW.trod_struct Tryz.underlying40 hu1
    obtain ⟨t0,ht0⟩:∃ u,ys[0]? = some u:=⟨_,List.getElem?_eq_getElem (by rw [hlen2]; decide)⟩
    obtain ⟨t1,ht1⟩:∃ u,ys[1]? = some u:=⟨_,List.getElem?_eq_getElem (by rw [hlen2]; decide)⟩
    rw [← hg2 0 _ rfl] at ht0
    rw [← hg2 1 _ rfl] at ht1
    simp [List.range_succ,ci] at ht0 ht1
    obtain ⟨z1,e1,_,_⟩:=DataW.trod_int Tryz.underlying3 ht0
    obtain ⟨z2,e2,_,_⟩:=DataW.trod_int Tryz.underlying3 ht1
    obtain ⟨s,e3,_,hz⟩:=DataW.trod_string Tryz.underlying9 hu2
    simp at e0 e1 e2 e3
    refine ⟨fun j hj=>?_,?_⟩
    · match j,hj with
      | 0,_=>show f i 0 = .int .i64 (intV (f i 0)); rw [e0]; rfl
      | 1,_=>show f i 1 = .int .i64 (intV (f i 1)); rw [e1]; rfl
      | 2,_=>show f i 2 = .int .i64 (intV (f i 2)); rw [e2]; rfl
      | 3,_=>show f i 3 = .string (strV (f i 3)); rw [e3]; rfl
    · show (strV (f i 3)).size ≤ maxLen
      rw [e3]; exact hz
  refine ⟨len,unF f,h2,fun i hi=>(hs i hi).2,?_⟩
  rcases h1 with q | ⟨a,cap,q1,q2,q3,q4⟩
  · exact .inl q
  · refine .inr ⟨a,cap,q1,q2,q3,fun i hi=>?_⟩
    obtain ⟨s1,s2,s3⟩:=q4 i hi
    exact ⟨s1,s2,fun j hj=>by have:=s3 j hj; rw [(hs i hi).1 j hj] at this; exact this⟩
def Un.l (u:Un):List Value:=[.int .i64 u.side,.int .i64 u.x,.int .i64 u.y,.string u.data]
def cellsU:Nat → (Nat → Un) → List Value
  | 0,_=>[]
  | n + 1,g=>cellsU n g ++ (g n).l
theorem cellsU_len (n:Nat) (g:Nat → Un):(cellsU n g).length = n * 4:=by
  induction n with
  | zero=>rfl
  | succ n ih=>show (cellsU n g ++ (g n).l).length = _; rw [List.length_append,ih]; simp [Un.l]; omega
theorem cellsU_at {n:Nat} (g:Nat → Un) {i j:Nat} (hi:i < n) (hj:j < 4):(cellsU n g)[i * 4 + j]? = some ((g i).c j):=by
  induction n with
  | zero=>omega
  | succ n ih =>
    show (cellsU n g ++ (g n).l)[i * 4 + j]? = _
    by_cases h:i < n
    · rw [List.getElem?_append_left (by rw [cellsU_len]; omega)]
      exact ih h
    · obtain rfl:i = n:=by omega
      rw [List.getElem?_append_right (by rw [cellsU_len]; omega),cellsU_len,Nat.add_sub_cancel_left]
      match j,hj with
      | 0,_=>rfl
      | 1,_=>rfl
      | 2,_=>rfl
      | 3,_=>rfl
theorem cellsU_get {n:Nat} {g:Nat → Un} {k:Nat} {u:Value} (h:(cellsU n g)[k]? = some u):∃ i j,i < n ∧ j < 4 ∧ k = i * 4 + j ∧ u = (g i).c j:=by
  have hl:k < n * 4:=by
    rcases Nat.lt_or_ge k (n * 4) with q | q
    · exact q
    · rw [List.getElem?_eq_none (by rw [cellsU_len]; exact q)] at h; cases h
  obtain ⟨i,j,hj,rfl⟩:∃ i j,j < 4 ∧ k = i * 4 + j:=⟨k / 4,k % 4,by omega,by omega⟩
  have hi:i < n:=by omega
  rw [cellsU_at g hi hj] at h
  exact ⟨i,j,hi,hj,rfl,(Option.some.inj h).symm⟩
theorem cellsU_one (n:Nat) (g:Nat → Un):∀ u ∈ cellsU n g,u.oneCell' = true:=by
  intro u hu
  obtain ⟨k,hk,rfl⟩:=List.mem_iff_getElem.1 hu
  obtain ⟨i,j,-,hj,-,e⟩:=cellsU_get (List.getElem?_eq_getElem hk)
  rw [e]
  match j,hj with
  | 0,_=>rfl
  | 1,_=>rfl
  | 2,_=>rfl
  | 3,_=>rfl
theorem rows_cellsU {w:World} {u:Value} {n:Nat} {g:Nat → Un} {base:Nat} (h:w.ownsRow base 42 4 u n (cellsU n g)):IsRows w 4 u n fun i j=>(g i).c j:=by
  rcases h.2 with ⟨rfl,rfl⟩ | ⟨b,cap,cur,rfl,-,hg,h1,h2,h3,h4⟩
  · exact .inl ⟨rfl,rfl⟩
  · refine .inr ⟨⟨b,0,none⟩,cap,rfl,h1,h2,fun i hi=>⟨rfl,lt_of_heapM hg,fun j hj=>?_⟩⟩
    have e1:=cellsU_at (n:=n) g hi hj
    have hlt:i * 4 + j < n * 4:=by omega
    rw [← h4,List.getElem?_take_of_lt hlt] at e1
    simp only [World.cell?,hg,Option.isSome_none,Bool.false_eq_true,if_false,Nat.zero_add]
    rw [← Array.getElem?_toList]
    exact e1
theorem chk_none (tag:ByteArray → ByteArray) (side:Int) (g:Nat → Op) (n:Nat) (data:ByteArray):chkG false tag side g n data = 10:=by
  unfold chkG; simp
theorem says_none (tag:ByteArray → ByteArray) (side:Int) (g:Nat → Op) (n:Nat):saysG false tag side g n = false:=by
  unfold saysG; simp
theorem hears_none (tag:ByteArray → ByteArray) (side:Int) (g:Nat → Op) (n:Nat):hearsG false tag side g n = false:=by
  unfold hearsG; simp
theorem holds_none (tag:ByteArray → ByteArray) (side:Int) (s:ByteArray) (x y:Int):holdsG false tag side s x y = false:=by
  unfold holdsG; rw [chk_none,says_none,hears_none]; simp
theorem any_none (tag:ByteArray → ByteArray) (u:Un):anyG false tag u = false:=by
  unfold anyG; rw [holds_none]; simp
theorem kn_nil:knP nilB nilB = false:=by unfold knP; simp
end Go.Proofs.YthacfgaacleaeaaGreatDoor
namespace Go.Proofs.YthacfgaacleaeaaGreatDoor
open Go.RowKit Sym Sha Go.ChangeShapes Go.WideShapes Go.ChangeMaps
theorem own_emptyU {w:World} {base k:Nat} (hk:k = w.heap.size) (h:base ≤ w.heap.size):(w.alloc (.cells #[] 42)).ownsRow base 42 4 (.slice (some ⟨k,0,none⟩) 0 0) 0 []:=by
  subst hk
  exact ⟨rfl,.inr ⟨w.heap.size,0,#[],rfl,h,heap_alloc_new w _,Nat.le_refl _,Nat.zero_le _,rfl,rfl⟩⟩
theorem step_append_ownG {P:Program} {ops:Array Oper} {o:Oper} {a:Act} {w:World} {K:Act → World → Prop} {Q:Exit → Act → World → Prop} {E:Prop}
    (hw:Region.wanted o (yielded ops a.tmps) = true) (s x:Operand) (t:TypeId) (hop:o.op = Op.call { callee:=Callee.builtin Builtin.append,args:=#[s,x],argTypes:=#[t,t] })
    (base:Nat) (e:TypeId) (i:TypeInfo) (z:Value) (size bytes:Nat) (h1:P.underlying t = some (.slice e)) (h2:P.info? e = some i) (h3:i.zero = some z) (h4:i.size = size) (h5:i.bytes = bytes) (h6:z.cells.size = size) (h7:0 < size)
    (u:Value) (n:Nat) (xs:List Value) (hs:a.eval s = u) (hown:w.ownsRow base e size u n xs)
    (ad:Addr) (m c:Nat) (news:List Value) (hx:a.eval x = .slice (some ad) m c) (hn:news.length = m * size) (hc:∀ j u,news[j]? = some u → w.cell? (ad.add j) = some u) (h1c:∀ u ∈ news,u.oneCell' = true)
    (b1:n + m ≤ maxLen) (b2:(n + m) * bytes ≤ 140737488355328) (hbase:base ≤ w.heap.size)
    (hK:∀ v' w',w'.ownsRow base e size v' (n + m) (xs ++ news) → w.grownBy w' u.ownBlock → K (a.put o.dst v') w') :
    if Region.wanted o (yielded ops a.tmps) = true then Oper.wp P o a w K Q else E:=by
  rw [if_pos hw]
  obtain ⟨v',w',hrun,r1,r2,_⟩:=run_append_own (P:=P) w base t o.type e i z size bytes h1 h2 h3 h4 h5 h6 h7 u n xs hown ad m c news hn hc h1c b1 b2 hbase
  unfold Oper.wp
  simp [execOp,hop,resolve,invoke,builtin,hs,hx,hrun,Result.andThen]
  exact hK v' w' r1 r2
theorem un_infoP:(Tryz.prog.info? 42).map (fun i=>(i.zero,i.size,i.bytes)) = some (some (.agg #[.int .i64 0,.int .i64 0,.int .i64 0,.string ⟨#[]⟩]),4,40):=by kernel_rfl
theorem unders_at {w W:World} {n:Nat} {g:Nat → Un} {ad:Addr} (hb:Below w.heap.size w W) (h:∀ i,i < n → ad.spot = none ∧ ad.block < w.heap.size ∧ ∀ j,j < 4 → w.cell? ⟨ad.block,ad.off + i * 4 + j,none⟩ = some ((g i).c j)):∀ j u,(cellsU n g)[j]? = some u → W.cell? (ad.add j) = some u:=by
  intro j u hj
  obtain ⟨i,k,hi,hk,rfl,rfl⟩:=cellsU_get hj
  obtain ⟨hs,hl,hc⟩:=h i hi
  obtain ⟨b,o,sp⟩:=ad
  obtain rfl:sp = none:=hs
  have ea:(⟨b,o,none⟩:Addr).add (i * 4 + k) = ⟨b,o + i * 4 + k,none⟩:=by
    simp only [Addr.add]
    split
    · rename_i h0; rw [show o + i * 4 + k = o by omega]
    · rw [Nat.add_assoc]
  rw [ea]
  exact (hb.cell (p:=⟨b,o + i * 4 + k,none⟩) hl).trans (hc k hk)
theorem under_at {w wr:World} {p3:Option Addr} {m cap i:Nat} {h:Nat → Un} (hu:IsRows w 4 (.slice p3 m cap) m fun i j=>(h i).c j) (hb:Below w.heap.size w wr) (hi:i < m) :
    ∃ bb o,p3 = some ⟨bb,o,none⟩ ∧ wr.cell? ⟨bb,o + i * 4,none⟩ = some (.int .i64 (h i).side) ∧ wr.cell? ⟨bb,o + i * 4 + 1,none⟩ = some (.int .i64 (h i).x) ∧ wr.cell? ⟨bb,o + i * 4 + 2,none⟩ = some (.int .i64 (h i).y) ∧ wr.cell? ⟨bb,o + i * 4 + 3,none⟩ = some (.string (h i).data):=by
  rcases hu with ⟨-,rfl⟩ | ⟨ad,cap,e,q1,-,q3⟩
  · exact absurd hi (Nat.not_lt_zero _)
  · obtain ⟨b,o,sp⟩:=ad
    obtain ⟨hs,hbl,hc⟩:=q3 i hi
    obtain rfl:sp = none:=hs
    have e0:p3 = some ⟨b,o,none⟩:=by injection e
    have hh:∀ j,j < 4 → wr.cell? ⟨b,o + i * 4 + j,none⟩ = some ((h i).c j):=fun j hj=>(hb.cell (p:=⟨b,o + i * 4 + j,none⟩) hbl).trans (hc j hj)
    exact ⟨b,o,e0,hh 0 (by decide),hh 1 (by decide),hh 2 (by decide),hh 3 (by decide)⟩
set_option maxRecDepth 100000 in
set_option maxHeartbeats 4000000 in
theorem none_any {w:World} {v v3:Value} {n m:Nat} {g:Nat → Op} {h:Nat → Un} (side:Int) (data:ByteArray) (hE:ErrT w) (hn:n ≤ maxLen) (hm:m ≤ maxLen) (hv:IsRows w 2 v n fun i j=>(g i).c j) (hu:IsRows w 4 v3 m fun i j=>(h i).c j) (hz:data.size ≤ maxLen) (hd:∀ i,i < m → (h i).data.size ≤ maxLen) :
    Calls Tryz.prog 5 #[.int .i64 side,v,.string data,v3] w fun e w'=>e = .returned (.bool true) ∧ Below w.heap.size w w':=by
  have hwk:=fun W (h:Below w.heap.size w W)=>works40 (hE.below h)
  have hgr:=fun W (h:Below w.heap.size w W)=>law07_great n g hn v W (row_of (hv.below h))
  obtain ⟨p3,cap3,rfl⟩:∃ a cap,v3 = .slice a m cap:=by
    rcases hu with ⟨rfl,rfl⟩ | ⟨ad,cap,rfl,-⟩
    · exact ⟨none,0,rfl⟩
    · exact ⟨_,_,rfl⟩
  by_cases hbig:1000 < data.size ∨ greatL n g = true ∨ 20 < m
  · obtain ⟨G,hG⟩:∃ G,greatL n g = G:=⟨_,rfl⟩
    rw [hG] at hgr hbig
    clear hv hu hd hE
    by_cases h0:(1000:Int) < (data.size:Int)
    · go_enter Tryz.func5,Tryz.ntmps5
      go_wp2_with (first
        | (go_at_call 8; (with_reducible refine (hwk _ (by (repeat' (first | (with_reducible exact Below.refl _ _) | (with_reducible refine below_alloc ?_ _) | (with_reducible refine Below.drew ?_) | (with_reducible refine below_drewN ?_ _) | (with_reducible refine Below.setCell ?_ ?_ _) | (with_reducible assumption) | (with_reducible refine below_of ?_ (by assumption)) | omega | (simp only [World.size_alloc,World.size_setCell,World.size_drew,size_drewN] at *; omega) | (simp; omega))))).mono ?_); rintro e w1 ⟨rfl,hb⟩; have hb1:Below w.heap.size w w1:=below_of (by (repeat' (first | (with_reducible exact Below.refl _ _) | (with_reducible refine below_alloc ?_ _) | (with_reducible refine Below.drew ?_) | (with_reducible refine below_drewN ?_ _) | (with_reducible refine Below.setCell ?_ ?_ _) | (with_reducible assumption) | (with_reducible refine below_of ?_ (by assumption)) | omega | (simp only [World.size_alloc,World.size_setCell,World.size_drew,size_drewN] at *; omega) | (simp; omega)))) hb))
      go_ret
      exact ⟨rfl,hb1⟩
    · cases G with
      | true =>
        go_enter Tryz.func5,Tryz.ntmps5
        go_wp2_with (first
          | (go_at_call 8; (with_reducible refine (hwk _ (by (repeat' (first | (with_reducible exact Below.refl _ _) | (with_reducible refine below_alloc ?_ _) | (with_reducible refine Below.drew ?_) | (with_reducible refine below_drewN ?_ _) | (with_reducible refine Below.setCell ?_ ?_ _) | (with_reducible assumption) | (with_reducible refine below_of ?_ (by assumption)) | omega | (simp only [World.size_alloc,World.size_setCell,World.size_drew,size_drewN] at *; omega) | (simp; omega))))).mono ?_); rintro e w1 ⟨rfl,hb⟩; have hb1:Below w.heap.size w w1:=below_of (by (repeat' (first | (with_reducible exact Below.refl _ _) | (with_reducible refine below_alloc ?_ _) | (with_reducible refine Below.drew ?_) | (with_reducible refine below_drewN ?_ _) | (with_reducible refine Below.setCell ?_ ?_ _) | (with_reducible assumption) | (with_reducible refine below_of ?_ (by assumption)) | omega | (simp only [World.size_alloc,World.size_setCell,World.size_drew,size_drewN] at *; omega) | (simp; omega)))) hb)
          | (go_at_call 9; (with_reducible refine (hgr _ hb1).mono ?_); rintro e w2 ⟨rfl,hb⟩; have hb2:Below w.heap.size w w2:=below_of hb1 hb))
        go_ret
        exact ⟨rfl,hb2⟩
      | false =>
        have h2:(20:Int) < (m:Int):=by rcases hbig with q | q | q; omega; cases q; omega
        go_enter Tryz.func5,Tryz.ntmps5
        go_wp2_with (first
          | (go_at_call 8; (with_reducible refine (hwk _ (by (repeat' (first | (with_reducible exact Below.refl _ _) | (with_reducible refine below_alloc ?_ _) | (with_reducible refine Below.drew ?_) | (with_reducible refine below_drewN ?_ _) | (with_reducible refine Below.setCell ?_ ?_ _) | (with_reducible assumption) | (with_reducible refine below_of ?_ (by assumption)) | omega | (simp only [World.size_alloc,World.size_setCell,World.size_drew,size_drewN] at *; omega) | (simp; omega))))).mono ?_); rintro e w1 ⟨rfl,hb⟩; have hb1:Below w.heap.size w w1:=below_of (by (repeat' (first | (with_reducible exact Below.refl _ _) | (with_reducible refine below_alloc ?_ _) | (with_reducible refine Below.drew ?_) | (with_reducible refine below_drewN ?_ _) | (with_reducible refine Below.setCell ?_ ?_ _) | (with_reducible assumption) | (with_reducible refine below_of ?_ (by assumption)) | omega | (simp only [World.size_alloc,World.size_setCell,World.size_drew,size_drewN] at *; omega) | (simp; omega)))) hb)
          | (go_at_call 9; (with_reducible refine (hgr _ hb1).mono ?_); rintro e w2 ⟨rfl,hb⟩; have hb2:Below w.heap.size w w2:=below_of hb1 hb))
        go_ret
        exact ⟨rfl,hb2⟩
  · have z2 : data.size ≤ 1000:=by omega
    have hm20:m ≤ 20:=by omega
    have hG:greatL n g = false:=by
      cases hq:greatL n g with
      | false=>rfl
      | true=>exact absurd (.inr (.inl hq)) hbig
    have hf:=Few.of hG
    rw [hG] at hgr
    have k0:nilB.size ≤ 1000:=by decide
    have hknil:knP nilB nilB = false:=kn_nil
    have h0i:¬ (1000:Int) < (data.size:Int):=by omega
    have h2i:¬ (20:Int) < (m:Int):=by omega
    have hC:=fun (W:World) (u:Value) (hV:ErrT W) (hr:∀ B,BlkSat B W u (.row n 2 fun i j=>(g i).c j))=>check_any (w:=W) (o:=u) nilB nilB side ⟨4,false,0,0,0,0,0,0,0,0,0,data⟩ hV hf hr ⟨k0,k0,by show data.size ≤ _; omega⟩
    have hS:=fun (W:World) (u:Value) (hr:∀ B,BlkSat B W u (.row n 2 fun i j=>(g i).c j))=>says_any (w:=W) (o:=u) nilB nilB side ⟨4,false,0,0,0,0,0,0,0,0,0,data⟩ hf hr ⟨k0,k0⟩
    have hH:=fun (W:World) (u:Value) (hr:∀ B,BlkSat B W u (.row n 2 fun i j=>(g i).c j))=>hears_any (w:=W) (o:=u) nilB nilB side ⟨4,false,0,0,0,0,0,0,0,0,0,data⟩ hf hr ⟨k0,k0⟩
    have hHo:=fun (W:World) (hV:ErrT W) (i:Nat) (hs:(h i).data.size ≤ 1000)=>holds_any (w:=W) nilB nilB side (h i).side (h i).x (h i).y (h i).data hV ⟨k0,k0,hs⟩
    have hY:=fun (W:World) (u:Value) (hV:ErrT W) (hs:∀ i,i < m → (h i).data.size ≤ 1000) (hr:IsRows W 4 u m fun i j=>(h i).c j)=>any_any (w:=W) nilB nilB hV ⟨k0,k0⟩ hm20 hs hr
    simp only [hknil,chk_none] at hC
    simp only [hknil,says_none] at hS
    simp only [hknil,hears_none] at hH
    simp only [hknil,holds_none] at hHo
    have hn0:hasU (fun _=>false) m = false:=hasU_miss (fun _ _=>rfl)
    simp only [hknil,any_none,hn0] at hY
    dsimp only [Pk.v] at hC hS hH
    clear hknil hG hbig hn0
    obtain ⟨i0,hi,hz0,hz1,hz2⟩:=info_parts opt_infoP
    obtain ⟨j0,hj,hj0,hj1,hj2⟩:=info_parts un_infoP
    have hn1:=hf.1
    have hnb:nilB = ⟨#[]⟩:=rfl
    rw [hnb] at hC hS hH hHo hY
    clear hnb k0 hf
    replace hC:Aside _:=hC
    replace hS:Aside _:=hS
    replace hH:Aside _:=hH
    replace hY:Aside _:=hY
    replace hHo:Aside _:=hHo
    rcases hv with ⟨rfl,rfl⟩ | ⟨ad,cap,rfl,hcap,hmax,hcell⟩
    · go_enter Tryz.func5,Tryz.ntmps5
      go_upto_region 7 with (first
        | (go_at_call 8; (with_reducible refine (hwk _ (by (repeat' (first | (with_reducible exact Below.refl _ _) | (with_reducible refine below_alloc ?_ _) | (with_reducible refine Below.drew ?_) | (with_reducible refine below_drewN ?_ _) | (with_reducible refine Below.setCell ?_ ?_ _) | (with_reducible assumption) | (with_reducible refine below_of ?_ (by assumption)) | omega | (simp only [World.size_alloc,World.size_setCell,World.size_drew,size_drewN] at *; omega) | (simp; omega))))).mono ?_); rintro e w1 ⟨rfl,hb⟩; have hb1:Below w.heap.size w w1:=below_of (by (repeat' (first | (with_reducible exact Below.refl _ _) | (with_reducible refine below_alloc ?_ _) | (with_reducible refine Below.drew ?_) | (with_reducible refine below_drewN ?_ _) | (with_reducible refine Below.setCell ?_ ?_ _) | (with_reducible assumption) | (with_reducible refine below_of ?_ (by assumption)) | omega | (simp only [World.size_alloc,World.size_setCell,World.size_drew,size_drewN] at *; omega) | (simp; omega)))) hb)
        | (go_at_call 9; (with_reducible refine (hgr _ hb1).mono ?_); rintro e w2 ⟨rfl,hb⟩; have hb2:Below w.heap.size w w2:=below_of hb1 hb))
      have hOp:Own ((w2.alloc (.cells #[.string ⟨#[]⟩,.string ⟨#[]⟩] 27)).alloc (.cells #[] 70)) w2.heap.size #[.string ⟨#[]⟩,.string ⟨#[]⟩]:=own_alloc (own_new _ _ _) _
      have hb5:Below w.heap.size w ((w2.alloc (.cells #[.string ⟨#[]⟩,.string ⟨#[]⟩] 27)).alloc (.cells #[] 70)):=by (repeat' (first | (with_reducible exact Below.refl _ _) | (with_reducible refine below_alloc ?_ _) | (with_reducible refine Below.drew ?_) | (with_reducible refine below_drewN ?_ _) | (with_reducible refine Below.setCell ?_ ?_ _) | (with_reducible assumption) | (with_reducible refine below_of ?_ (by assumption)) | omega | (simp only [World.size_alloc,World.size_setCell,World.size_drew,size_drewN] at *; omega) | (simp; omega)))
      have hrow:=row_zero ((w2.alloc (.cells #[.string ⟨#[]⟩,.string ⟨#[]⟩] 27)).alloc (.cells #[] 70)) (some ⟨w2.heap.size + 1,0,none⟩) g
      have hx:=own_new' (B:=w2.heap.size + 1 + 1) ((w2.alloc (.cells #[.string ⟨#[]⟩,.string ⟨#[]⟩] 27)).alloc (.cells #[] 70)) #[.int .i64 4,.bool false,.int .i64 0,.int .i64 0,.int .i64 0,.int .i64 0,.int .i64 0,.int .i64 0,.int .i64 0,.int .i64 0,.int .i64 0,.slice (some ⟨w2.heap.size + 1,0,none⟩) 0 0,.string data] 31 (by simp)
      have hO:=own_alloc hOp (.cells #[.int .i64 4,.bool false,.int .i64 0,.int .i64 0,.int .i64 0,.int .i64 0,.int .i64 0,.int .i64 0,.int .i64 0,.int .i64 0,.int .i64 0,.slice (some ⟨w2.heap.size + 1,0,none⟩) 0 0,.string data] 31)
      have hbx:=below_alloc hb5 (.cells #[.int .i64 4,.bool false,.int .i64 0,.int .i64 0,.int .i64 0,.int .i64 0,.int .i64 0,.int .i64 0,.int .i64 0,.int .i64 0,.int .i64 0,.slice (some ⟨w2.heap.size + 1,0,none⟩) 0 0,.string data] 31)
      have hr6:=row_belowF hrow ((Below.refl _ ((w2.alloc (.cells #[.string ⟨#[]⟩,.string ⟨#[]⟩] 27)).alloc (.cells #[] 70))).alloc (Nat.le_refl _) (.cells #[.int .i64 4,.bool false,.int .i64 0,.int .i64 0,.int .i64 0,.int .i64 0,.int .i64 0,.int .i64 0,.int .i64 0,.int .i64 0,.int .i64 0,.slice (some ⟨w2.heap.size + 1,0,none⟩) 0 0,.string data] 31))
      clear hwk hgr hrow hb5 hOp hb1 hb2 hb
      generalize World.alloc _ (.cells #[.int .i64 4,.bool false,.int .i64 0,.int .i64 0,.int .i64 0,.int .i64 0,.int .i64 0,.int .i64 0,.int .i64 0,.int .i64 0,.int .i64 0,.slice (some ⟨w2.heap.size + 1,0,none⟩) 0 0,.string data] 31) = W at *
      have hS0:∀ V:World,Below W.heap.size W V → V.cell? ⟨w2.heap.size,0,none⟩ = some (.string ⟨#[]⟩) ∧ V.cell? ⟨w2.heap.size,1,none⟩ = some (.string ⟨#[]⟩) ∧ V.cell? ⟨w2.heap.size + 1 + 1,0,none⟩ = some (.int .i64 4) ∧ V.cell? ⟨w2.heap.size + 1 + 1,1,none⟩ = some (.bool false) ∧ V.cell? ⟨w2.heap.size + 1 + 1,2,none⟩ = some (.int .i64 0) ∧ V.cell? ⟨w2.heap.size + 1 + 1,3,none⟩ = some (.int .i64 0) ∧ V.cell? ⟨w2.heap.size + 1 + 1,4,none⟩ = some (.int .i64 0) ∧ V.cell? ⟨w2.heap.size + 1 + 1,5,none⟩ = some (.int .i64 0) ∧ V.cell? ⟨w2.heap.size + 1 + 1,6,none⟩ = some (.int .i64 0) ∧ V.cell? ⟨w2.heap.size + 1 + 1,7,none⟩ = some (.int .i64 0) ∧ V.cell? ⟨w2.heap.size + 1 + 1,8,none⟩ = some (.int .i64 0) ∧ V.cell? ⟨w2.heap.size + 1 + 1,9,none⟩ = some (.int .i64 0) ∧ V.cell? ⟨w2.heap.size + 1 + 1,10,none⟩ = some (.int .i64 0) ∧ V.cell? ⟨w2.heap.size + 1 + 1,11,none⟩ = some (.slice (some ⟨w2.heap.size + 1,0,none⟩) 0 0) ∧ V.cell? ⟨w2.heap.size + 1 + 1,12,none⟩ = some (.string data):=fun V hV=>⟨(own_below hO hV).2.1 0,(own_below hO hV).2.1 1,(own_below hx hV).2.1 0,(own_below hx hV).2.1 1,(own_below hx hV).2.1 2,(own_below hx hV).2.1 3,(own_below hx hV).2.1 4,(own_below hx hV).2.1 5,(own_below hx hV).2.1 6,(own_below hx hV).2.1 7,(own_below hx hV).2.1 8,(own_below hx hV).2.1 9,(own_below hx hV).2.1 10,(own_below hx hV).2.1 11,(own_below hx hV).2.1 12⟩
      have hErW:=hE.below hbx
      have huW:=hu.below hbx
      have hOs:=hO.1
      clear hO hx
      go_wp2
      go_loopw [11] (fun u8 wr=>∃ i:Nat,u8 = .int .i64 i ∧ i ≤ m ∧ Below W.heap.size W wr ∧ ∀ j,j < i → (h j).data.size ≤ 1000)
        (fun u8 _=>m - natM u8)
      case atStart=>exact ⟨0,rfl,Nat.zero_le _,by (repeat' (first | (with_reducible exact Below.refl _ _) | (with_reducible refine below_alloc ?_ _) | (with_reducible refine Below.drew ?_) | (with_reducible refine below_drewN ?_ _) | (with_reducible refine Below.setCell ?_ ?_ _) | (with_reducible assumption) | (with_reducible refine below_of ?_ (by assumption)) | omega | (simp only [World.size_alloc,World.size_setCell,World.size_drew,size_drewN] at *; omega) | (simp; omega))),fun j hj=>absurd hj (Nat.not_lt_zero _)⟩
      case round =>
        obtain ⟨i,rfl,hile,hbw0,hsm⟩:=hrel
        have hEr:=hErW.below hbw0
        by_cases hlt:i < m
        · have hltz:(i:Int) < (m:Int):=by omega
          obtain ⟨bb,o,rfl,c0,c1,c2,c3⟩:=under_at huW hbw0 hlt
          by_cases hbg:(1000:Int) < ((h i).data.size:Int)
          · clear hS0 hC hS hH hHo hY hsm hr6
            generalize (h i).data = ud at *
            go_wp2
            go_ret
            exact ⟨rfl,hbx.trans (hbw0.mono hbx.size)⟩
          · have hs1:(h i).data.size ≤ 1000:=by omega
            have ha:∀ q:BelowF wr,_:=fun q=>hHo.out q.w (hEr.below q.h) i hs1
            have hnx:∀ j,j < i + 1 → (h j).data.size ≤ 1000:=fun j hj=>by
              by_cases e:j = i
              · subst e; exact hs1
              · exact hsm j (by omega)
            obtain ⟨a0,a1,-⟩:=hS0 _ hbw0
            replace a0:=cell_byF a0
            replace a1:=cell_byF a1
            clear hS0 hC hS hH hHo hY hsm hr6 hs1
            generalize (h i).side = us at *
            generalize (h i).x = ux at *
            generalize (h i).y = uy at *
            generalize hud:(h i).data = ud at *
            clear hud
            go_wp2
            replace c0:=cell_byF c0
            replace c1:=cell_byF c1
            replace c2:=cell_byF c2
            replace c3:=cell_byF c3
            refine wp_region_belowF (by kernel_rfl) (by kernel_rfl) ?_
            (repeat (quiet_step ((go_at_call 17; with_reducible exact below_leftF (ha _)))))
            refine wpQuiet_nil ?_
            intro _ hw'
            obtain ⟨⟨wq,hbq⟩,hw''⟩:=hw'
            subst hw''
            have hbx2:=hbw0.trans (hbq.mono hbw0.size)
            clear ha a0 a1 c0 c1 c2 c3
            go_wp2
            go_roundw
            case rel=>exact ⟨i + 1,by first | rfl | go_num,hlt,hbx2,hnx⟩
            case measure=>(try go_num); simp [natM]; omega
        · obtain rfl:i = m:=by omega
          have hltz:¬ (i:Int) < (i:Int):=by omega
          have hvr:=huW.below hbw0
          have hrr:=row_belowF hr6 hbw0
          have hC1:=hC.out
          have hS1:=hS.out
          have hH1:=hH.out
          have hY1:=fun (V:World) (u:Value) (hV:ErrT V) (hr:IsRows V 4 u i fun i j=>(h i).c j)=>hY.out V u hV hsm hr
          have hws:=hbw0.size
          have hbd:Below wr.heap.size wr wr.drew:=(Below.refl _ _).drew
          have hErd:=hEr.below hbd
          have hrrd:=row_belowF hrr hbd
          have hS2:∀ V:World,Below wr.heap.size wr V → _:=fun V hV=>hS0 V (hbw0.trans (hV.mono hws))
          clear hS0 hC hS hH hHo hY hsm hr6 huW
          rcases hvr with ⟨hp0,rfl⟩ | hvr
          · cases hp0
            have hro:∀ (V:World) (a:Option Addr),IsRows V 4 (.slice a 0 0) 0 fun i j=>(h i).c j:=fun V a=>by
              cases a with
              | none=>exact .inl ⟨rfl,rfl⟩
              | some a=>exact .inr ⟨a,0,rfl,Nat.le_refl _,Nat.zero_le _,fun i hi=>absurd hi (Nat.not_lt_zero _)⟩
            go_wp2
            go_region_held3 (fun V=>V.cell? ⟨w2.heap.size,0,none⟩ = some (.string ⟨#[]⟩) ∧ V.cell? ⟨w2.heap.size,1,none⟩ = some (.string ⟨#[]⟩) ∧ V.cell? ⟨w2.heap.size + 1 + 1,0,none⟩ = some (.int .i64 4) ∧ V.cell? ⟨w2.heap.size + 1 + 1,1,none⟩ = some (.bool false) ∧ V.cell? ⟨w2.heap.size + 1 + 1,2,none⟩ = some (.int .i64 0) ∧ V.cell? ⟨w2.heap.size + 1 + 1,3,none⟩ = some (.int .i64 0) ∧ V.cell? ⟨w2.heap.size + 1 + 1,4,none⟩ = some (.int .i64 0) ∧ V.cell? ⟨w2.heap.size + 1 + 1,5,none⟩ = some (.int .i64 0) ∧ V.cell? ⟨w2.heap.size + 1 + 1,6,none⟩ = some (.int .i64 0) ∧ V.cell? ⟨w2.heap.size + 1 + 1,7,none⟩ = some (.int .i64 0) ∧ V.cell? ⟨w2.heap.size + 1 + 1,8,none⟩ = some (.int .i64 0) ∧ V.cell? ⟨w2.heap.size + 1 + 1,9,none⟩ = some (.int .i64 0) ∧ V.cell? ⟨w2.heap.size + 1 + 1,10,none⟩ = some (.int .i64 0) ∧ V.cell? ⟨w2.heap.size + 1 + 1,11,none⟩ = some (.slice (some ⟨w2.heap.size + 1,0,none⟩) 0 0) ∧ V.cell? ⟨w2.heap.size + 1 + 1,12,none⟩ = some (.string data))
              (first | exact hS2 _ (by (repeat' (first | (with_reducible exact Below.refl _ _) | (with_reducible refine below_alloc ?_ _) | (with_reducible refine Below.drew ?_) | (with_reducible refine below_drewN ?_ _) | (with_reducible refine Below.setCell ?_ ?_ _) | (with_reducible assumption) | (with_reducible refine below_of ?_ (by assumption)) | omega | (simp only [World.size_alloc,World.size_setCell,World.size_drew,size_drewN] at *; omega) | (simp; omega)))))
              (first
                | (go_at_call 11; (with_reducible refine (hC1 _ _ hErd hrrd).mono ?_); rintro e w6 ⟨rfl,hb⟩; have hb6:Below wr.heap.size wr w6:=below_of (by (repeat' (first | (with_reducible exact Below.refl _ _) | (with_reducible refine below_alloc ?_ _) | (with_reducible refine Below.drew ?_) | (with_reducible refine below_drewN ?_ _) | (with_reducible refine Below.setCell ?_ ?_ _) | (with_reducible assumption) | (with_reducible refine below_of ?_ (by assumption)) | omega | (simp only [World.size_alloc,World.size_setCell,World.size_drew,size_drewN] at *; omega) | (simp; omega)))) hb; have hr66:=row_belowF hrr hb6)
                | (go_at_call 13; (with_reducible refine (hS1 _ _ hr66).mono ?_); rintro e w7 ⟨rfl,hb⟩; have hb7:Below wr.heap.size wr w7:=below_of (by (repeat' (first | (with_reducible exact Below.refl _ _) | (with_reducible refine below_alloc ?_ _) | (with_reducible refine Below.drew ?_) | (with_reducible refine below_drewN ?_ _) | (with_reducible refine Below.setCell ?_ ?_ _) | (with_reducible assumption) | (with_reducible refine below_of ?_ (by assumption)) | omega | (simp only [World.size_alloc,World.size_setCell,World.size_drew,size_drewN] at *; omega) | (simp; omega)))) hb; have hr77:=row_belowF hrr hb7)
                | (go_at_call 15; (with_reducible refine (hH1 _ _ hr77).mono ?_); rintro e w8 ⟨rfl,hb⟩; have hb8:Below wr.heap.size wr w8:=below_of (by (repeat' (first | (with_reducible exact Below.refl _ _) | (with_reducible refine below_alloc ?_ _) | (with_reducible refine Below.drew ?_) | (with_reducible refine below_drewN ?_ _) | (with_reducible refine Below.setCell ?_ ?_ _) | (with_reducible assumption) | (with_reducible refine below_of ?_ (by assumption)) | omega | (simp only [World.size_alloc,World.size_setCell,World.size_drew,size_drewN] at *; omega) | (simp; omega)))) hb)
                | (go_at_call 19; (with_reducible refine (hY1 _ _ (hEr.below (by (repeat' (first | (with_reducible exact Below.refl _ _) | (with_reducible refine below_alloc ?_ _) | (with_reducible refine Below.drew ?_) | (with_reducible refine below_drewN ?_ _) | (with_reducible refine Below.setCell ?_ ?_ _) | (with_reducible assumption) | (with_reducible refine below_of ?_ (by assumption)) | omega | (simp only [World.size_alloc,World.size_setCell,World.size_drew,size_drewN] at *; omega) | (simp; omega))))) (hro _ _)).mono ?_); rintro e w9 ⟨rfl,hb⟩; have hb9:Below wr.heap.size wr w9:=below_of (by (repeat' (first | (with_reducible exact Below.refl _ _) | (with_reducible refine below_alloc ?_ _) | (with_reducible refine Below.drew ?_) | (with_reducible refine below_drewN ?_ _) | (with_reducible refine Below.setCell ?_ ?_ _) | (with_reducible assumption) | (with_reducible refine below_of ?_ (by assumption)) | omega | (simp only [World.size_alloc,World.size_setCell,World.size_drew,size_drewN] at *; omega) | (simp; omega)))) hb))
            all_goals (go_wp2; go_ret; exact ⟨by first | rfl | simp,hbx.trans ((hbw0.trans (hb9.mono hws)).mono hbx.size)⟩)
          · obtain ⟨ad3,cp3,hpe,g1,g2,g3⟩:=hvr
            cases hpe
            have hlen3:=cellsU_len i h
            have hnew:∀ V:World,Below wr.heap.size wr V → ∀ j u,(cellsU i h)[j]? = some u → V.cell? (ad3.add j) = some u:=fun V hV j u hj=>unders_at hV g3 j u hj
            go_wp2
            go_region_held3 (fun V=>V.cell? ⟨w2.heap.size,0,none⟩ = some (.string ⟨#[]⟩) ∧ V.cell? ⟨w2.heap.size,1,none⟩ = some (.string ⟨#[]⟩) ∧ V.cell? ⟨w2.heap.size + 1 + 1,0,none⟩ = some (.int .i64 4) ∧ V.cell? ⟨w2.heap.size + 1 + 1,1,none⟩ = some (.bool false) ∧ V.cell? ⟨w2.heap.size + 1 + 1,2,none⟩ = some (.int .i64 0) ∧ V.cell? ⟨w2.heap.size + 1 + 1,3,none⟩ = some (.int .i64 0) ∧ V.cell? ⟨w2.heap.size + 1 + 1,4,none⟩ = some (.int .i64 0) ∧ V.cell? ⟨w2.heap.size + 1 + 1,5,none⟩ = some (.int .i64 0) ∧ V.cell? ⟨w2.heap.size + 1 + 1,6,none⟩ = some (.int .i64 0) ∧ V.cell? ⟨w2.heap.size + 1 + 1,7,none⟩ = some (.int .i64 0) ∧ V.cell? ⟨w2.heap.size + 1 + 1,8,none⟩ = some (.int .i64 0) ∧ V.cell? ⟨w2.heap.size + 1 + 1,9,none⟩ = some (.int .i64 0) ∧ V.cell? ⟨w2.heap.size + 1 + 1,10,none⟩ = some (.int .i64 0) ∧ V.cell? ⟨w2.heap.size + 1 + 1,11,none⟩ = some (.slice (some ⟨w2.heap.size + 1,0,none⟩) 0 0) ∧ V.cell? ⟨w2.heap.size + 1 + 1,12,none⟩ = some (.string data))
              (first | exact hS2 _ (by (repeat' (first | (with_reducible exact Below.refl _ _) | (with_reducible refine below_alloc ?_ _) | (with_reducible refine Below.drew ?_) | (with_reducible refine below_drewN ?_ _) | (with_reducible refine Below.setCell ?_ ?_ _) | (with_reducible assumption) | (with_reducible refine below_of ?_ (by assumption)) | omega | (simp only [World.size_alloc,World.size_setCell,World.size_drew,size_drewN] at *; omega) | (simp; omega)))) | exact hS2 _ hb5 | exact hS2 _ (below_of hb5 (by assumption)))
              (first
                | (go_at_call 11; (with_reducible refine (hC1 _ _ hErd hrrd).mono ?_); rintro e w6 ⟨rfl,hb⟩; have hb6:Below wr.heap.size wr w6:=below_of (by (repeat' (first | (with_reducible exact Below.refl _ _) | (with_reducible refine below_alloc ?_ _) | (with_reducible refine Below.drew ?_) | (with_reducible refine below_drewN ?_ _) | (with_reducible refine Below.setCell ?_ ?_ _) | (with_reducible assumption) | (with_reducible refine below_of ?_ (by assumption)) | omega | (simp only [World.size_alloc,World.size_setCell,World.size_drew,size_drewN] at *; omega) | (simp; omega)))) hb; have hr66:=row_belowF hrr hb6)
                | (go_at_call 13; (with_reducible refine (hS1 _ _ hr66).mono ?_); rintro e w7 ⟨rfl,hb⟩; have hb7:Below wr.heap.size wr w7:=below_of (by (repeat' (first | (with_reducible exact Below.refl _ _) | (with_reducible refine below_alloc ?_ _) | (with_reducible refine Below.drew ?_) | (with_reducible refine below_drewN ?_ _) | (with_reducible refine Below.setCell ?_ ?_ _) | (with_reducible assumption) | (with_reducible refine below_of ?_ (by assumption)) | omega | (simp only [World.size_alloc,World.size_setCell,World.size_drew,size_drewN] at *; omega) | (simp; omega)))) hb; have hr77:=row_belowF hrr hb7)
                | (go_at_call 15; (with_reducible refine (hH1 _ _ hr77).mono ?_); rintro e w8 ⟨rfl,hb⟩; have hb8:Below wr.heap.size wr w8:=below_of (by (repeat' (first | (with_reducible exact Below.refl _ _) | (with_reducible refine below_alloc ?_ _) | (with_reducible refine Below.drew ?_) | (with_reducible refine below_drewN ?_ _) | (with_reducible refine Below.setCell ?_ ?_ _) | (with_reducible assumption) | (with_reducible refine below_of ?_ (by assumption)) | omega | (simp only [World.size_alloc,World.size_setCell,World.size_drew,size_drewN] at *; omega) | (simp; omega)))) hb)
                | (go_at_call 19; (with_reducible refine (hY1 _ _ (hEr.below hb5) hr5).mono ?_); rintro e w9 ⟨rfl,hb⟩; have hb9:Below wr.heap.size wr w9:=below_of (by (repeat' (first | (with_reducible exact Below.refl _ _) | (with_reducible refine below_alloc ?_ _) | (with_reducible refine Below.drew ?_) | (with_reducible refine below_drewN ?_ _) | (with_reducible refine Below.setCell ?_ ?_ _) | (with_reducible assumption) | (with_reducible refine below_of ?_ (by assumption)) | omega | (simp only [World.size_alloc,World.size_setCell,World.size_drew,size_drewN] at *; omega) | (simp; omega)))) hb)
                | (go_loud (refine step_append_ownG (by first | rfl | kernel_rfl | (simp [Region.wanted,yielded]; done)) _ _ 38 rfl wr.heap.size 42 j0 (.agg #[.int .i64 0,.int .i64 0,.int .i64 0,.string ⟨#[]⟩]) 4 40 Tryz.underlying38 hj hj0 hj1 hj2 rfl (by decide) _ _ _ (by simp [Act.eval,Act.put]) (own_emptyU (w:=w8) (base:=wr.heap.size) rfl hb8.size) ad3 i cap3 (cellsU i h) (by simp [Act.eval,Act.put]) hlen3 (hnew _ (by (repeat' (first | (with_reducible exact Below.refl _ _) | (with_reducible refine below_alloc ?_ _) | (with_reducible refine Below.drew ?_) | (with_reducible refine below_drewN ?_ _) | (with_reducible refine Below.setCell ?_ ?_ _) | (with_reducible assumption) | (with_reducible refine below_of ?_ (by assumption)) | omega | (simp only [World.size_alloc,World.size_setCell,World.size_drew,size_drewN] at *; omega) | (simp; omega))))) (cellsU_one _ _) (by unfold maxLen; omega) (by omega) (by have:=hb8.size; simp; omega) ?_); intro u5 w5 hown3 hg5; have hb5:Below wr.heap.size wr w5:=(show Below wr.heap.size wr (w8.alloc (.cells #[] 42)) from hb8.alloc hb8.size _).grown hg5 (by have:=hb8.size; simp; omega) (fun j hj=>by have hj:some w8.heap.size = some j:=hj; have:=Option.some.inj hj; have:=hb8.size; omega); have hr5:=rows_cellsU (g:=h) (by simpa using hown3)))
            all_goals (go_wp2; go_ret; exact ⟨by first | rfl | simp,hbx.trans ((hbw0.trans (hb9.mono hws)).mono hbx.size)⟩)
    · have hlen : (opCells (lsO n g)).length = n * 2:=by rw [opCells_length,lsO_len]
      go_enter Tryz.func5,Tryz.ntmps5
      go_upto_region 7 with (first
        | (go_at_call 8; (with_reducible refine (hwk _ (by (repeat' (first | (with_reducible exact Below.refl _ _) | (with_reducible refine below_alloc ?_ _) | (with_reducible refine Below.drew ?_) | (with_reducible refine below_drewN ?_ _) | (with_reducible refine Below.setCell ?_ ?_ _) | (with_reducible assumption) | (with_reducible refine below_of ?_ (by assumption)) | omega | (simp only [World.size_alloc,World.size_setCell,World.size_drew,size_drewN] at *; omega) | (simp; omega))))).mono ?_); rintro e w1 ⟨rfl,hb⟩; have hb1:Below w.heap.size w w1:=below_of (by (repeat' (first | (with_reducible exact Below.refl _ _) | (with_reducible refine below_alloc ?_ _) | (with_reducible refine Below.drew ?_) | (with_reducible refine below_drewN ?_ _) | (with_reducible refine Below.setCell ?_ ?_ _) | (with_reducible assumption) | (with_reducible refine below_of ?_ (by assumption)) | omega | (simp only [World.size_alloc,World.size_setCell,World.size_drew,size_drewN] at *; omega) | (simp; omega)))) hb)
        | (go_at_call 9; (with_reducible refine (hgr _ hb1).mono ?_); rintro e w2 ⟨rfl,hb⟩; have hb2:Below w.heap.size w w2:=below_of hb1 hb)
        | (at_builtin
           have hb4:Below w.heap.size w ((w2.alloc (.cells #[.string ⟨#[]⟩,.string ⟨#[]⟩] 27)).alloc (.cells #[] 70)):=by (repeat' (first | (with_reducible exact Below.refl _ _) | (with_reducible refine below_alloc ?_ _) | (with_reducible refine Below.drew ?_) | (with_reducible refine below_drewN ?_ _) | (with_reducible refine Below.setCell ?_ ?_ _) | (with_reducible assumption) | (with_reducible refine below_of ?_ (by assumption)) | omega | (simp only [World.size_alloc,World.size_setCell,World.size_drew,size_drewN] at *; omega) | (simp; omega)))
           have hO4:Own ((w2.alloc (.cells #[.string ⟨#[]⟩,.string ⟨#[]⟩] 27)).alloc (.cells #[] 70)) w2.heap.size #[.string ⟨#[]⟩,.string ⟨#[]⟩]:=own_alloc (own_new _ _ _) _
           go_loud (refine wpList_append_own _ rfl _ _ 23 rfl w.heap.size 70 i0 (.agg #[.int .i64 0,.string ⟨#[]⟩]) 2 24 Tryz.underlying23 hi hz0 hz1 hz2 rfl (by decide) _ _ _ rfl (own_empty (by simp) (by have:=hb2.size; simp; omega)) ad n cap (opCells (lsO n g)) rfl hlen (news_at hb4 hcell) (opCells_oneV _) (by unfold maxLen; omega) (by omega) (by have:=hb2.size; simp; omega) ?_)
           intro u5 w5 hown hgrow hnil
           go_loud (have hb5:Below w.heap.size w w5:=hb4.grown hgrow (by have:=hb2.size; simp; omega) (fun j hj=>by have hj:some (w2.heap.size + 1) = some j:=hj; have:=hb2.size; have:=Option.some.inj hj; omega))
           go_loud (have hOp:Own w5 w2.heap.size #[.string ⟨#[]⟩,.string ⟨#[]⟩]:=own_grownF hO4 hgrow (fun e=>by have e:some w2.heap.size = some (w2.heap.size + 1):=e; have:=Option.some.inj e; omega))
           have hown:w5.ownsRow w.heap.size 70 2 u5 n (opCells (lsO n g)):=by simpa using hown
           have hrow:=rows_lsO hown
           obtain ⟨pu,cu,hu5⟩:=row_sliceF hown; subst hu5
           clear hgrow hnil hO4 hb4))
      have hx:=own_new' (B:=w5.heap.size) w5 #[.int .i64 4,.bool false,.int .i64 0,.int .i64 0,.int .i64 0,.int .i64 0,.int .i64 0,.int .i64 0,.int .i64 0,.int .i64 0,.int .i64 0,.slice pu n cu,.string data] 31 (by simp)
      have hO:=own_alloc hOp (.cells #[.int .i64 4,.bool false,.int .i64 0,.int .i64 0,.int .i64 0,.int .i64 0,.int .i64 0,.int .i64 0,.int .i64 0,.int .i64 0,.int .i64 0,.slice pu n cu,.string data] 31)
      have hbx:=below_alloc hb5 (.cells #[.int .i64 4,.bool false,.int .i64 0,.int .i64 0,.int .i64 0,.int .i64 0,.int .i64 0,.int .i64 0,.int .i64 0,.int .i64 0,.int .i64 0,.slice pu n cu,.string data] 31)
      have hr6:=row_belowF hrow ((Below.refl _ w5).alloc (Nat.le_refl _) (.cells #[.int .i64 4,.bool false,.int .i64 0,.int .i64 0,.int .i64 0,.int .i64 0,.int .i64 0,.int .i64 0,.int .i64 0,.int .i64 0,.int .i64 0,.slice pu n cu,.string data] 31))
      clear hwk hgr hrow hb5 hOp hb1 hb2 hb
      generalize World.alloc _ (.cells #[.int .i64 4,.bool false,.int .i64 0,.int .i64 0,.int .i64 0,.int .i64 0,.int .i64 0,.int .i64 0,.int .i64 0,.int .i64 0,.int .i64 0,.slice pu n cu,.string data] 31) = W at *
      have hS0:∀ V:World,Below W.heap.size W V → V.cell? ⟨w2.heap.size,0,none⟩ = some (.string ⟨#[]⟩) ∧ V.cell? ⟨w2.heap.size,1,none⟩ = some (.string ⟨#[]⟩) ∧ V.cell? ⟨w5.heap.size,0,none⟩ = some (.int .i64 4) ∧ V.cell? ⟨w5.heap.size,1,none⟩ = some (.bool false) ∧ V.cell? ⟨w5.heap.size,2,none⟩ = some (.int .i64 0) ∧ V.cell? ⟨w5.heap.size,3,none⟩ = some (.int .i64 0) ∧ V.cell? ⟨w5.heap.size,4,none⟩ = some (.int .i64 0) ∧ V.cell? ⟨w5.heap.size,5,none⟩ = some (.int .i64 0) ∧ V.cell? ⟨w5.heap.size,6,none⟩ = some (.int .i64 0) ∧ V.cell? ⟨w5.heap.size,7,none⟩ = some (.int .i64 0) ∧ V.cell? ⟨w5.heap.size,8,none⟩ = some (.int .i64 0) ∧ V.cell? ⟨w5.heap.size,9,none⟩ = some (.int .i64 0) ∧ V.cell? ⟨w5.heap.size,10,none⟩ = some (.int .i64 0) ∧ V.cell? ⟨w5.heap.size,11,none⟩ = some (.slice pu n cu) ∧ V.cell? ⟨w5.heap.size,12,none⟩ = some (.string data):=fun V hV=>⟨(own_below hO hV).2.1 0,(own_below hO hV).2.1 1,(own_below hx hV).2.1 0,(own_below hx hV).2.1 1,(own_below hx hV).2.1 2,(own_below hx hV).2.1 3,(own_below hx hV).2.1 4,(own_below hx hV).2.1 5,(own_below hx hV).2.1 6,(own_below hx hV).2.1 7,(own_below hx hV).2.1 8,(own_below hx hV).2.1 9,(own_below hx hV).2.1 10,(own_below hx hV).2.1 11,(own_below hx hV).2.1 12⟩
      have hErW:=hE.below hbx
      have huW:=hu.below hbx
      have hOs:=hO.1
      clear hO hx
      go_wp2
      go_loopw [11] (fun u8 wr=>∃ i:Nat,u8 = .int .i64 i ∧ i ≤ m ∧ Below W.heap.size W wr ∧ ∀ j,j < i → (h j).data.size ≤ 1000)
        (fun u8 _=>m - natM u8)
      case atStart=>exact ⟨0,rfl,Nat.zero_le _,by (repeat' (first | (with_reducible exact Below.refl _ _) | (with_reducible refine below_alloc ?_ _) | (with_reducible refine Below.drew ?_) | (with_reducible refine below_drewN ?_ _) | (with_reducible refine Below.setCell ?_ ?_ _) | (with_reducible assumption) | (with_reducible refine below_of ?_ (by assumption)) | omega | (simp only [World.size_alloc,World.size_setCell,World.size_drew,size_drewN] at *; omega) | (simp; omega))),fun j hj=>absurd hj (Nat.not_lt_zero _)⟩
      case round =>
        obtain ⟨i,rfl,hile,hbw0,hsm⟩:=hrel
        have hEr:=hErW.below hbw0
        by_cases hlt:i < m
        · have hltz:(i:Int) < (m:Int):=by omega
          obtain ⟨bb,o,rfl,c0,c1,c2,c3⟩:=under_at huW hbw0 hlt
          by_cases hbg:(1000:Int) < ((h i).data.size:Int)
          · clear hS0 hC hS hH hHo hY hsm hr6
            generalize (h i).data = ud at *
            go_wp2
            go_ret
            exact ⟨rfl,hbx.trans (hbw0.mono hbx.size)⟩
          · have hs1:(h i).data.size ≤ 1000:=by omega
            have ha:∀ q:BelowF wr,_:=fun q=>hHo.out q.w (hEr.below q.h) i hs1
            have hnx:∀ j,j < i + 1 → (h j).data.size ≤ 1000:=fun j hj=>by
              by_cases e:j = i
              · subst e; exact hs1
              · exact hsm j (by omega)
            obtain ⟨a0,a1,-⟩:=hS0 _ hbw0
            replace a0:=cell_byF a0
            replace a1:=cell_byF a1
            clear hS0 hC hS hH hHo hY hsm hr6 hs1
            generalize (h i).side = us at *
            generalize (h i).x = ux at *
            generalize (h i).y = uy at *
            generalize hud:(h i).data = ud at *
            clear hud
            go_wp2
            replace c0:=cell_byF c0
            replace c1:=cell_byF c1
            replace c2:=cell_byF c2
            replace c3:=cell_byF c3
            refine wp_region_belowF (by kernel_rfl) (by kernel_rfl) ?_
            (repeat (quiet_step ((go_at_call 17; with_reducible exact below_leftF (ha _)))))
            refine wpQuiet_nil ?_
            intro _ hw'
            obtain ⟨⟨wq,hbq⟩,hw''⟩:=hw'
            subst hw''
            have hbx2:=hbw0.trans (hbq.mono hbw0.size)
            clear ha a0 a1 c0 c1 c2 c3
            go_wp2
            go_roundw
            case rel=>exact ⟨i + 1,by first | rfl | go_num,hlt,hbx2,hnx⟩
            case measure=>(try go_num); simp [natM]; omega
        · obtain rfl:i = m:=by omega
          have hltz:¬ (i:Int) < (i:Int):=by omega
          have hvr:=huW.below hbw0
          have hrr:=row_belowF hr6 hbw0
          have hC1:=hC.out
          have hS1:=hS.out
          have hH1:=hH.out
          have hY1:=fun (V:World) (u:Value) (hV:ErrT V) (hr:IsRows V 4 u i fun i j=>(h i).c j)=>hY.out V u hV hsm hr
          have hws:=hbw0.size
          have hbd:Below wr.heap.size wr wr.drew:=(Below.refl _ _).drew
          have hErd:=hEr.below hbd
          have hrrd:=row_belowF hrr hbd
          have hS2:∀ V:World,Below wr.heap.size wr V → _:=fun V hV=>hS0 V (hbw0.trans (hV.mono hws))
          clear hS0 hC hS hH hHo hY hsm hr6 huW
          rcases hvr with ⟨hp0,rfl⟩ | hvr
          · cases hp0
            have hro:∀ (V:World) (a:Option Addr),IsRows V 4 (.slice a 0 0) 0 fun i j=>(h i).c j:=fun V a=>by
              cases a with
              | none=>exact .inl ⟨rfl,rfl⟩
              | some a=>exact .inr ⟨a,0,rfl,Nat.le_refl _,Nat.zero_le _,fun i hi=>absurd hi (Nat.not_lt_zero _)⟩
            go_wp2
            go_region_held3 (fun V=>V.cell? ⟨w2.heap.size,0,none⟩ = some (.string ⟨#[]⟩) ∧ V.cell? ⟨w2.heap.size,1,none⟩ = some (.string ⟨#[]⟩) ∧ V.cell? ⟨w5.heap.size,0,none⟩ = some (.int .i64 4) ∧ V.cell? ⟨w5.heap.size,1,none⟩ = some (.bool false) ∧ V.cell? ⟨w5.heap.size,2,none⟩ = some (.int .i64 0) ∧ V.cell? ⟨w5.heap.size,3,none⟩ = some (.int .i64 0) ∧ V.cell? ⟨w5.heap.size,4,none⟩ = some (.int .i64 0) ∧ V.cell? ⟨w5.heap.size,5,none⟩ = some (.int .i64 0) ∧ V.cell? ⟨w5.heap.size,6,none⟩ = some (.int .i64 0) ∧ V.cell? ⟨w5.heap.size,7,none⟩ = some (.int .i64 0) ∧ V.cell? ⟨w5.heap.size,8,none⟩ = some (.int .i64 0) ∧ V.cell? ⟨w5.heap.size,9,none⟩ = some (.int .i64 0) ∧ V.cell? ⟨w5.heap.size,10,none⟩ = some (.int .i64 0) ∧ V.cell? ⟨w5.heap.size,11,none⟩ = some (.slice pu n cu) ∧ V.cell? ⟨w5.heap.size,12,none⟩ = some (.string data))
              (first | exact hS2 _ (by (repeat' (first | (with_reducible exact Below.refl _ _) | (with_reducible refine below_alloc ?_ _) | (with_reducible refine Below.drew ?_) | (with_reducible refine below_drewN ?_ _) | (with_reducible refine Below.setCell ?_ ?_ _) | (with_reducible assumption) | (with_reducible refine below_of ?_ (by assumption)) | omega | (simp only [World.size_alloc,World.size_setCell,World.size_drew,size_drewN] at *; omega) | (simp; omega)))))
              (first
                | (go_at_call 11; (with_reducible refine (hC1 _ _ hErd hrrd).mono ?_); rintro e w6 ⟨rfl,hb⟩; have hb6:Below wr.heap.size wr w6:=below_of (by (repeat' (first | (with_reducible exact Below.refl _ _) | (with_reducible refine below_alloc ?_ _) | (with_reducible refine Below.drew ?_) | (with_reducible refine below_drewN ?_ _) | (with_reducible refine Below.setCell ?_ ?_ _) | (with_reducible assumption) | (with_reducible refine below_of ?_ (by assumption)) | omega | (simp only [World.size_alloc,World.size_setCell,World.size_drew,size_drewN] at *; omega) | (simp; omega)))) hb; have hr66:=row_belowF hrr hb6)
                | (go_at_call 13; (with_reducible refine (hS1 _ _ hr66).mono ?_); rintro e w7 ⟨rfl,hb⟩; have hb7:Below wr.heap.size wr w7:=below_of (by (repeat' (first | (with_reducible exact Below.refl _ _) | (with_reducible refine below_alloc ?_ _) | (with_reducible refine Below.drew ?_) | (with_reducible refine below_drewN ?_ _) | (with_reducible refine Below.setCell ?_ ?_ _) | (with_reducible assumption) | (with_reducible refine below_of ?_ (by assumption)) | omega | (simp only [World.size_alloc,World.size_setCell,World.size_drew,size_drewN] at *; omega) | (simp; omega)))) hb; have hr77:=row_belowF hrr hb7)
                | (go_at_call 15; (with_reducible refine (hH1 _ _ hr77).mono ?_); rintro e w8 ⟨rfl,hb⟩; have hb8:Below wr.heap.size wr w8:=below_of (by (repeat' (first | (with_reducible exact Below.refl _ _) | (with_reducible refine below_alloc ?_ _) | (with_reducible refine Below.drew ?_) | (with_reducible refine below_drewN ?_ _) | (with_reducible refine Below.setCell ?_ ?_ _) | (with_reducible assumption) | (with_reducible refine below_of ?_ (by assumption)) | omega | (simp only [World.size_alloc,World.size_setCell,World.size_drew,size_drewN] at *; omega) | (simp; omega)))) hb)
                | (go_at_call 19; (with_reducible refine (hY1 _ _ (hEr.below (by (repeat' (first | (with_reducible exact Below.refl _ _) | (with_reducible refine below_alloc ?_ _) | (with_reducible refine Below.drew ?_) | (with_reducible refine below_drewN ?_ _) | (with_reducible refine Below.setCell ?_ ?_ _) | (with_reducible assumption) | (with_reducible refine below_of ?_ (by assumption)) | omega | (simp only [World.size_alloc,World.size_setCell,World.size_drew,size_drewN] at *; omega) | (simp; omega))))) (hro _ _)).mono ?_); rintro e w9 ⟨rfl,hb⟩; have hb9:Below wr.heap.size wr w9:=below_of (by (repeat' (first | (with_reducible exact Below.refl _ _) | (with_reducible refine below_alloc ?_ _) | (with_reducible refine Below.drew ?_) | (with_reducible refine below_drewN ?_ _) | (with_reducible refine Below.setCell ?_ ?_ _) | (with_reducible assumption) | (with_reducible refine below_of ?_ (by assumption)) | omega | (simp only [World.size_alloc,World.size_setCell,World.size_drew,size_drewN] at *; omega) | (simp; omega)))) hb))
            all_goals (go_wp2; go_ret; exact ⟨by first | rfl | simp,hbx.trans ((hbw0.trans (hb9.mono hws)).mono hbx.size)⟩)
          · obtain ⟨ad3,cp3,hpe,g1,g2,g3⟩:=hvr
            cases hpe
            have hlen3:=cellsU_len i h
            have hnew:∀ V:World,Below wr.heap.size wr V → ∀ j u,(cellsU i h)[j]? = some u → V.cell? (ad3.add j) = some u:=fun V hV j u hj=>unders_at hV g3 j u hj
            go_wp2
            go_region_held3 (fun V=>V.cell? ⟨w2.heap.size,0,none⟩ = some (.string ⟨#[]⟩) ∧ V.cell? ⟨w2.heap.size,1,none⟩ = some (.string ⟨#[]⟩) ∧ V.cell? ⟨w5.heap.size,0,none⟩ = some (.int .i64 4) ∧ V.cell? ⟨w5.heap.size,1,none⟩ = some (.bool false) ∧ V.cell? ⟨w5.heap.size,2,none⟩ = some (.int .i64 0) ∧ V.cell? ⟨w5.heap.size,3,none⟩ = some (.int .i64 0) ∧ V.cell? ⟨w5.heap.size,4,none⟩ = some (.int .i64 0) ∧ V.cell? ⟨w5.heap.size,5,none⟩ = some (.int .i64 0) ∧ V.cell? ⟨w5.heap.size,6,none⟩ = some (.int .i64 0) ∧ V.cell? ⟨w5.heap.size,7,none⟩ = some (.int .i64 0) ∧ V.cell? ⟨w5.heap.size,8,none⟩ = some (.int .i64 0) ∧ V.cell? ⟨w5.heap.size,9,none⟩ = some (.int .i64 0) ∧ V.cell? ⟨w5.heap.size,10,none⟩ = some (.int .i64 0) ∧ V.cell? ⟨w5.heap.size,11,none⟩ = some (.slice pu n cu) ∧ V.cell? ⟨w5.heap.size,12,none⟩ = some (.string data))
              (first | exact hS2 _ (by (repeat' (first | (with_reducible exact Below.refl _ _) | (with_reducible refine below_alloc ?_ _) | (with_reducible refine Below.drew ?_) | (with_reducible refine below_drewN ?_ _) | (with_reducible refine Below.setCell ?_ ?_ _) | (with_reducible assumption) | (with_reducible refine below_of ?_ (by assumption)) | omega | (simp only [World.size_alloc,World.size_setCell,World.size_drew,size_drewN] at *; omega) | (simp; omega)))) | exact hS2 _ hb5 | exact hS2 _ (below_of hb5 (by assumption)))
              (first
                | (go_at_call 11; (with_reducible refine (hC1 _ _ hErd hrrd).mono ?_); rintro e w6 ⟨rfl,hb⟩; have hb6:Below wr.heap.size wr w6:=below_of (by (repeat' (first | (with_reducible exact Below.refl _ _) | (with_reducible refine below_alloc ?_ _) | (with_reducible refine Below.drew ?_) | (with_reducible refine below_drewN ?_ _) | (with_reducible refine Below.setCell ?_ ?_ _) | (with_reducible assumption) | (with_reducible refine below_of ?_ (by assumption)) | omega | (simp only [World.size_alloc,World.size_setCell,World.size_drew,size_drewN] at *; omega) | (simp; omega)))) hb; have hr66:=row_belowF hrr hb6)
                | (go_at_call 13; (with_reducible refine (hS1 _ _ hr66).mono ?_); rintro e w7 ⟨rfl,hb⟩; have hb7:Below wr.heap.size wr w7:=below_of (by (repeat' (first | (with_reducible exact Below.refl _ _) | (with_reducible refine below_alloc ?_ _) | (with_reducible refine Below.drew ?_) | (with_reducible refine below_drewN ?_ _) | (with_reducible refine Below.setCell ?_ ?_ _) | (with_reducible assumption) | (with_reducible refine below_of ?_ (by assumption)) | omega | (simp only [World.size_alloc,World.size_setCell,World.size_drew,size_drewN] at *; omega) | (simp; omega)))) hb; have hr77:=row_belowF hrr hb7)
                | (go_at_call 15; (with_reducible refine (hH1 _ _ hr77).mono ?_); rintro e w8 ⟨rfl,hb⟩; have hb8:Below wr.heap.size wr w8:=below_of (by (repeat' (first | (with_reducible exact Below.refl _ _) | (with_reducible refine below_alloc ?_ _) | (with_reducible refine Below.drew ?_) | (with_reducible refine below_drewN ?_ _) | (with_reducible refine Below.setCell ?_ ?_ _) | (with_reducible assumption) | (with_reducible refine below_of ?_ (by assumption)) | omega | (simp only [World.size_alloc,World.size_setCell,World.size_drew,size_drewN] at *; omega) | (simp; omega)))) hb)
                | (go_at_call 19; (with_reducible refine (hY1 _ _ (hEr.below hb5) hr5).mono ?_); rintro e w9 ⟨rfl,hb⟩; have hb9:Below wr.heap.size wr w9:=below_of (by (repeat' (first | (with_reducible exact Below.refl _ _) | (with_reducible refine below_alloc ?_ _) | (with_reducible refine Below.drew ?_) | (with_reducible refine below_drewN ?_ _) | (with_reducible refine Below.setCell ?_ ?_ _) | (with_reducible assumption) | (with_reducible refine below_of ?_ (by assumption)) | omega | (simp only [World.size_alloc,World.size_setCell,World.size_drew,size_drewN] at *; omega) | (simp; omega)))) hb)
                | (go_loud (refine step_append_ownG (by first | rfl | kernel_rfl | (simp [Region.wanted,yielded]; done)) _ _ 38 rfl wr.heap.size 42 j0 (.agg #[.int .i64 0,.int .i64 0,.int .i64 0,.string ⟨#[]⟩]) 4 40 Tryz.underlying38 hj hj0 hj1 hj2 rfl (by decide) _ _ _ (by simp [Act.eval,Act.put]) (own_emptyU (w:=w8) (base:=wr.heap.size) rfl hb8.size) ad3 i cap3 (cellsU i h) (by simp [Act.eval,Act.put]) hlen3 (hnew _ (by (repeat' (first | (with_reducible exact Below.refl _ _) | (with_reducible refine below_alloc ?_ _) | (with_reducible refine Below.drew ?_) | (with_reducible refine below_drewN ?_ _) | (with_reducible refine Below.setCell ?_ ?_ _) | (with_reducible assumption) | (with_reducible refine below_of ?_ (by assumption)) | omega | (simp only [World.size_alloc,World.size_setCell,World.size_drew,size_drewN] at *; omega) | (simp; omega))))) (cellsU_one _ _) (by unfold maxLen; omega) (by omega) (by have:=hb8.size; simp; omega) ?_); intro u5 w5 hown3 hg5; have hb5:Below wr.heap.size wr w5:=(show Below wr.heap.size wr (w8.alloc (.cells #[] 42)) from hb8.alloc hb8.size _).grown hg5 (by have:=hb8.size; simp; omega) (fun j hj=>by have hj:some w8.heap.size = some j:=hj; have:=Option.some.inj hj; have:=hb8.size; omega); have hr5:=rows_cellsU (g:=h) (by simpa using hown3)))
            all_goals (go_wp2; go_ret; exact ⟨by first | rfl | simp,hbx.trans ((hbw0.trans (hb9.mono hws)).mono hbx.size)⟩)
end Go.Proofs.YthacfgaacleaeaaGreatDoor
namespace Go.Proofs.YthacfgaacleaeaaGreatDoor
open Go.ChangeShapes Go.WideShapes Go.ChangeAt Go.RowKit Sym Go.ChangeMaps
theorem laid_tabN {W:World} (h:laidMetH Tryz.prog Rows.forgeNoneRow.laid W):TabW W:=laid_tab h
theorem door_metN (os:Os) (args:Array Value):laidMetH Tryz.prog Rows.forgeNoneRow.laid ((World.doorLaid Tryz.prog 24 os).forCall (fun _ _=>0) ⟨#[],args,[]⟩).memory:=door_met os args
set_option maxRecDepth 100000 in
theorem forgeNone_walk {H:Type} {enc:TypeId × Value → H} {W:World} {base:Nat} {sp:Nat → Bool} {v0 v1 v2 v3:Value} {d0 d1 d2 d3:DataW H} {p0 p1 p2 p3:List MemPlace}
    (a0:Value.okWide Tryz.prog W .any base 3 v0) (h0:DataW.Trod enc Tryz.prog W 0 sp true 3 v0 d0 p0)
    (a1:Value.okWide Tryz.prog W .any base 23 v1) (h1:DataW.Trod enc Tryz.prog W 0 sp true 23 v1 d1 p1)
    (a2:Value.okWide Tryz.prog W .any base 9 v2) (h2:DataW.Trod enc Tryz.prog W 0 sp true 9 v2 d2 p2)
    (a3:Value.okWide Tryz.prog W .any base 38 v3) (h3:DataW.Trod enc Tryz.prog W 0 sp true 38 v3 d3 p3) (ht:TabW W) :
    Calls Tryz.prog 5 #[v0,v1,v2,v3] W fun e W'=>e = .returned (.bool true) ∧ Below W.heap.size W W':=by
  obtain ⟨z,rfl,-,-⟩:=open_int Tryz.underlying3 a0 h0
  obtain ⟨n,g,hn,hr⟩:=open_optsI a1 h1
  obtain ⟨x,rfl,-,-,hx⟩:=open_string Tryz.underlying9 a2 h2
  obtain ⟨m,g2,hm,hd,hr2⟩:=open_unders a3 h3
  exact none_any z x ht hn hm hr hr2 hx hd
end Go.Proofs.YthacfgaacleaeaaGreatDoor

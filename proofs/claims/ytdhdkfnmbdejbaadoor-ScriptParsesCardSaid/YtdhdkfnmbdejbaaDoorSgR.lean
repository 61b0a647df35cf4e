/- Two lists of texts; what waits, plainly; a feed beside rows. No conditions. -/
import Derived.Test.YtdhdkfnmbdejbaaDoorSgQ
namespace Go.Proofs.YtdhdkfnmbdejbaaDoor
set_option linter.unusedVariables false
set_option linter.unusedSimpArgs false
open Go.RowKit

theorem own_txt {w : World} {base : Nat} {u : Value} {xs : List ByteArray} (h : w.ownsRow base 9 1 u xs.length (xs.map Value.string)) : TxtAt w u xs := by
  rcases h.2 with ⟨rfl, h0⟩ | ⟨g, cap, cur, rfl, hbase, hg, q1, q2, q3, q4⟩
  · exact ⟨none, 0, by rw [h0], by omega, Nat.zero_le _, fun i hi => by omega⟩
  · refine ⟨_, cap, rfl, q1, q2, fun i hi => ⟨_, rfl, ?_, rfl⟩⟩
    have := row_cells hg q1 q3 q4 i (.string xs[i]) (by rw [List.getElem?_map, List.getElem?_eq_getElem hi]; rfl)
    have e : ((⟨g, 0, none⟩ : Addr).add i) = ⟨g, 0 + i, none⟩ := by
      simp [Addr.add]
      intro h; exact h.symm
    rw [e] at this
    exact this
set_option maxRecDepth 100000 in
set_option maxHeartbeats 4000000 in
theorem strings_same {w : World} {u v : Value} {xs : List ByteArray} (hu : TxtAt w u xs) (hv : TxtAt w v xs) : Calls Tryd.prog 18 #[u, v] w fun e w' => e = .returned (.bool true) ∧ Below w.heap.size w w' := by
  obtain ⟨pa, ca, rfl, ha1, ha2, hca⟩ := hu
  obtain ⟨pb, cb, rfl, hb1, hb2, hcb⟩ := hv
  have hnn : (((xs.length : Int)) != (xs.length : Int)) = false := by simp
  go_enter Tryd.func18, Tryd.ntmps18
  go_wp2
  go_loopg [5] xs.length (fun gf u5 wx => ∃ i q : Nat, u5 = .int .i64 i ∧ i ≤ xs.length ∧ xs.length ≤ i + gf ∧ wx = w.drewN q)
  case atStart => exact ⟨0, 0, rfl, Nat.zero_le _, by omega, rfl⟩
  case round =>
    obtain ⟨i, q, rfl, hi, hfu, rfl⟩ := hrel
    by_cases hlt : i < xs.length
    · obtain ⟨g', rfl⟩ : ∃ g', gk = g' + 1 := ⟨gk - 1, by omega⟩
      obtain ⟨aa, rfl, hxa, hsa⟩ := hca i hlt
      obtain ⟨ab, rfl, hxb, hsb⟩ := hcb i hlt
      obtain ⟨b1, o1, sp1⟩ := aa
      obtain ⟨b2, o2, sp2⟩ := ab
      obtain rfl : sp1 = none := hsa
      obtain rfl : sp2 = none := hsb
      dsimp only at hxa hxb
      have hk2 : i + 1 ≤ xs.length ∧ xs.length ≤ i + 1 + g' := ⟨hlt, by omega⟩
      have hi0 : (i : Int) < (xs.length : Int) := by omega
      generalize xs[i] = s at *
      have hss : (s.toList != s.toList) = false := by simp
      have hmx : xs.length ≤ maxLen := by omega
      have hwn : wrap64 ((i : Int) + 1) = ((i + 1 : Nat) : Int) := wrap_succ hlt ha1 ha2
      clear hca hcb hi hfu hmx
      go_wp2
      go_quiet (fail)
      go_wp2
      go_roundg g'
      case measure => exact Nat.lt_succ_self _
      case rel => exact ⟨i + 1, q + nq, by first | rfl | rw [hwn], hk2.1, hk2.2, by simp [World.drewN, Nat.add_assoc]⟩
    · go_wp2
      go_ret
      exact ⟨rfl, below_drewN (Below.refl _ _) q⟩
/-- what is put adds one if it is taken -/
theorem putF_count (cl : Bool) (n : Nat) (U P : List ByteArray) (l : ByteArray) : (putF cl n U P l).2.1.length + (putF cl n U P l).2.2.length = U.length + P.length + (if (putF cl n U P l).1 then 1 else 0) := by
  unfold putF
  split
  · rfl
  · split
    · split
      · simp; omega
      · rfl
    · split
      · simp; omega
      · rfl
theorem putF_shut (n : Nat) (U P : List ByteArray) (l : ByteArray) : putF true n U P l = (false, U, P) := rfl
theorem putF_room {n : Nat} {U P : List ByteArray} {l : ByteArray} (hU : U.length ≤ n) (hP : P.length ≤ n) : (putF false n U P l).2.1.length ≤ n ∧ (putF false n U P l).2.2.length ≤ n := by
  unfold putF
  rw [if_neg (by decide)]
  split
  · split
    · rename_i h; simp; omega
    · exact ⟨hU, hP⟩
  · split
    · rename_i h; simp; omega
    · exact ⟨hU, hP⟩
/-- the next line is the first of all that wait -/
theorem next_all {U P r : List ByteArray} {s : ByteArray} (h : U ++ P = s :: r) : (nextF U P).1 = s ∧ (nextF U P).2.1 = true ∧ (nextF U P).2.2.1 ++ (nextF U P).2.2.2 = r := by
  match U, P with
  | u :: U, P => simp at h; exact ⟨h.1, rfl, h.2⟩
  | [], p :: P => simp at h; exact ⟨h.1, rfl, h.2⟩
  | [], [] => simp at h
/-- a row is no channel -/
theorem row_tch {w w' : World} {k a b c n base : Nat} {U P : List ByteArray} {cl : Bool} {u : Value} {m : Nat} {xs : List Value} (hF : FeedAt w k a b c n U P cl) (ht : Tch a b c w w') (h : w.ownsRow base 9 1 u m xs) : w'.ownsRow base 9 1 u m xs := by
  refine ⟨h.1, ?_⟩
  rcases h.2 with hn | ⟨g, cap, cur, rfl, hb, hg, rest⟩
  · exact .inl hn
  · refine .inr ⟨g, cap, cur, rfl, hb, ?_, rest⟩
    obtain ⟨_, _, h1⟩ := hF.hu
    obtain ⟨_, _, h2⟩ := hF.hp
    obtain ⟨_, _, h3⟩ := hF.hc
    rw [ht.block g (fun e => by subst e; rw [h1] at hg; cases hg) (fun e => by subst e; rw [h2] at hg; cases hg) (fun e => by subst e; rw [h3] at hg; cases hg)]
    exact hg
/-- the feed behind an append to a younger row -/
theorem FeedAt.append {w w3 : World} {o : Obj} {k a b c n B : Nat} {U P : List ByteArray} {cl : Bool} {u : Value} {m : Nat} {xs : List Value} (hF : FeedAt w k a b c n U P cl) (hB : k < B ∧ a < B ∧ b < B ∧ c < B) (hrow : w.ownsRow B 9 1 u m xs) (hg : (w.alloc o).grownBy w3 u.ownBlock) : FeedAt w3 k a b c n U P cl := by
  obtain ⟨l0, l1, l2, l3⟩ := hF.lt
  have hk : ∀ j, j < w.heap.size → j < B → w3.heap[j]? = w.heap[j]? := fun j hj hjB => by
    rw [hg.block j (by rw [World.size_alloc]; omega) (fun e => by have := (hrow.lt j e.symm).1; omega)]
    exact Below.heap_alloc _ _ _ hj
  exact hF.move (hk k l0 hB.1) (hk a l1 hB.2.1) (hk b l2 hB.2.2.1) (hk c l3 hB.2.2.2)
/-- an elder row behind an append to a younger one -/
theorem row_append {w w3 : World} {o : Obj} {B base : Nat} {u v : Value} {m n : Nat} {xs ys : List Value} (hv : w.ownsRow base 9 1 v n ys) (hlt : ∀ j, v.ownBlock = some j → j < B) (hrow : w.ownsRow B 9 1 u m xs) (hg : (w.alloc o).grownBy w3 u.ownBlock) : w3.ownsRow base 9 1 v n ys := by
  refine (hv.alloc o).kept hg ?_
  cases hq : v.ownBlock with
  | none => exact .inl rfl
  | some j =>
    right
    intro e
    have h1 := hlt j hq
    have h2 := (hrow.lt j e.symm).1
    omega
end Go.Proofs.YtdhdkfnmbdejbaaDoor

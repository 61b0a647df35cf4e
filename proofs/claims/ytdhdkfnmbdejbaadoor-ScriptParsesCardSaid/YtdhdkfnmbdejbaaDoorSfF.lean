/- The order of lines, plainly; two lists of texts. No conditions. -/
import Derived.Test.YtdhdkfnmbdejbaaDoorSfE
import Derived.Deep.AppendLies
import Derived.Laws.AppendOwnNone
namespace Go.Proofs.YtdhdkfnmbdejbaaDoor
set_option linter.unusedVariables false
set_option linter.unusedSimpArgs false
open Go.RowKit Go.Conc

/-- what waits behind some lines, closed never -/
def waitL (n : Nat) (ls : List ByteArray) : List ByteArray × List ByteArray := ls.foldl (fun q l => (putF false n q.1 q.2 l).2) ([], [])
theorem wait_snoc (n : Nat) (ls : List ByteArray) (l : ByteArray) : waitL n (ls ++ [l]) = (putF false n (waitL n ls).1 (waitL n ls).2 l).2 := by
  unfold waitL; rw [List.foldl_append]; rfl
/-- a slice of texts, only read -/
def TxtAt (w : World) (v : Value) (ls : List ByteArray) : Prop := ∃ p cap, v = .slice p ls.length cap ∧ ls.length ≤ cap ∧ cap ≤ maxLen ∧ ∀ i (h : i < ls.length), ∃ a, p = some a ∧ w.cell? ⟨a.block, a.off + i, a.spot⟩ = some (.string ls[i]) ∧ a.spot = none
theorem str_infoP : (Tryd.prog.info? 9).map (fun i => (i.zero, i.size, i.bytes)) = some (some (.string ⟨#[]⟩), 1, 16) := by kernel_rfl
def lenV : Value → Nat
  | .int .i64 n => n.toNat
  | _ => 0
theorem row_slice {w : World} {base : Nat} {e : TypeId} {sz : Nat} {u : Value} {n : Nat} {xs : List Value} (h : w.ownsRow base e sz u n xs) : ∃ p cap, u = .slice p n cap := by
  rcases h.2 with ⟨rfl, rfl⟩ | ⟨g, cap, cur, rfl, -⟩
  · exact ⟨none, 0, rfl⟩
  · exact ⟨_, _, rfl⟩
theorem extract_up (s : ByteArray) (k : Nat) : (s.extract 0 k).data.toList = s.data.toList.take k := by simp [ByteArray.data_extract]
theorem cutV_at {l : ByteArray} (hl : 0 < l.size) : cutV l = if (l[0].toNat : Int) = 33 then (l.extract 1 l.size, true) else (l, false) := by
  have e : (l.extract 0 1).toList = [l[0]] := by
    rw [ByteArray.toList_eq, extract_up]
    have : 0 < l.data.toList.length := by simpa using hl
    rw [List.take_succ_eq_append_getElem this]
    rfl
  unfold cutV
  rw [e]
  have e2 : (([l[0]] : List UInt8) == [33]) = decide ((l[0].toNat : Int) = 33) := by
    rw [Bool.eq_iff_iff, beq_iff_eq, decide_eq_true_eq, List.cons.injEq]
    constructor
    · rintro ⟨h, -⟩; rw [h]; rfl
    · intro h; exact ⟨UInt8.toNat_inj.1 (by show l[0].toNat = 33; omega), rfl⟩
  rw [e2]
  by_cases h : (l[0].toNat : Int) = 33
  · rw [if_pos h, if_pos ⟨by omega, by simpa using h⟩]
  · rw [if_neg h, if_neg (fun q => h (by simpa using q.2))]
theorem cutV_none {l : ByteArray} (hl : ¬ 0 < l.size) : cutV l = (l, false) := cutV_short (by omega)
theorem cells_new (w : World) (cs : Array Value) (t : TypeId) (j : Nat) (u : Value) (h : cs.toList[j]? = some u) : (w.alloc (.cells cs t)).cell? ((⟨w.heap.size, 0, none⟩ : Addr).add j) = some u := by
  have e : ((⟨w.heap.size, 0, none⟩ : Addr).add j) = ⟨w.heap.size, j, none⟩ := by
    simp [Addr.add]
    intro h; exact h.symm
  rw [e]
  have := (own_new w cs t).2.1 j
  rw [this, ← Array.getElem?_toList, h]
theorem putF_len (n : Nat) (U P : List ByteArray) (l : ByteArray) : (putF false n U P l).2.1.length ≤ U.length + 1 ∧ (putF false n U P l).2.2.length ≤ P.length + 1 := by
  unfold putF
  rw [if_neg (by decide)]
  split <;> split <;> simp
theorem wait_le (n : Nat) : ∀ ls : List ByteArray, (waitL n ls).1.length ≤ ls.length ∧ (waitL n ls).2.length ≤ ls.length := by
  intro ls
  suffices h : ∀ (ls : List ByteArray) (q : List ByteArray × List ByteArray), (ls.foldl (fun q l => (putF false n q.1 q.2 l).2) q).1.length ≤ q.1.length + ls.length ∧ (ls.foldl (fun q l => (putF false n q.1 q.2 l).2) q).2.length ≤ q.2.length + ls.length by
    have h2 := h ls ([], [])
    unfold waitL
    simpa using h2
  intro ls
  induction ls with
  | nil => intro q; exact ⟨Nat.le_refl _, Nat.le_refl _⟩
  | cons l ls ih =>
    intro q
    rw [List.foldl_cons]
    have h1 := putF_len n q.1 q.2 l
    have h2 := ih (putF false n q.1 q.2 l).2
    simp only [List.length_cons]
    omega
theorem append_two {w w3 : World} {B : Nat} {u5 u6 : Value} {n5 n6 g : Nat} {x5 x6 : List Value} {o : Obj} {W : World} (hb : Below B W w) (hB : B ≤ W.heap.size) (r5 : w.ownsRow B 9 1 u5 n5 x5) (r6 : w.ownsRow B 9 1 u6 n6 x6)
    (hne : u5.ownBlock = none ∨ u5.ownBlock ≠ u6.ownBlock) (hg : (w.alloc o).grownBy w3 u5.ownBlock) (hat : u5.ownBlock = some g ∨ g = w.heap.size + 1) : w3.ownsRow B 9 1 u6 n6 x6 ∧ (some g ≠ u6.ownBlock) ∧ Below B W w3 := by
  have hd : u6.ownBlock = none ∨ u6.ownBlock ≠ u5.ownBlock := by
    rcases hne with h | h
    · rw [h]
      cases h6 : u6.ownBlock with
      | none => exact .inl rfl
      | some k => exact .inr (by simp)
    · exact .inr h.symm
  refine ⟨(r6.alloc o).kept hg hd, ?_, (hb.alloc (by have := hb.size; omega) o).grown hg (by have := hb.size; simp; omega) (fun j hj => (r5.lt j hj).1)⟩
  intro e
  rcases hat with h | h
  · rcases hne with h2 | h2
    · rw [h] at h2; cases h2
    · exact h2 (h.trans e)
  · have := (r6.lt g e.symm).2
    omega
theorem ne_turn {a b : Option Nat} (h : a = none ∨ a ≠ b) : b = none ∨ b ≠ a := by
  rcases h with h | h
  · subst h
    cases b with
    | none => exact .inl rfl
    | some k => exact .inr (by simp)
  · exact .inr h.symm
theorem row_cells {w : World} {g c : Nat} {cur : Array Value} {e : TypeId} {xs : List Value} {n : Nat} (hg : w.heap[g]? = some (.cells cur e (0, 0))) (h1 : n ≤ c) (h3 : cur.size = c * 1) (h4 : cur.toList.take (n * 1) = xs) (j : Nat) (u : Value) (h : xs[j]? = some u) : w.cell? ((⟨g, 0, none⟩ : Addr).add j) = some u := by
  have e : ((⟨g, 0, none⟩ : Addr).add j) = ⟨g, j, none⟩ := by
    simp [Addr.add]
    intro h; exact h.symm
  rw [e, ← h4] at *
  have hj : j < n * 1 := by
    by_cases hj : j < n * 1
    · exact hj
    · rw [List.getElem?_eq_none (by rw [List.length_take]; omega)] at h; cases h
  rw [List.getElem?_take_of_lt hj] at h
  simp only [World.cell?, hg, Option.isSome_none, Bool.false_eq_true, if_false]
  rw [← Array.getElem?_toList]
  exact h
theorem wrap_succ {i n c : Nat} (h : i < n) (hc : n ≤ c) (hm : c ≤ maxLen) : wrap64 ((i : Int) + 1) = ((i + 1 : Nat) : Int) := by
  unfold maxLen at hm
  rw [IntWalk.wrap64_in _ (by omega)]; rfl
set_option maxRecDepth 100000 in
set_option maxHeartbeats 4000000 in
theorem order_any {w : World} {v : Value} {ls : List ByteArray} {n : Nat} (hn : n ≤ 1000) (h : TxtAt w v ls) :
    Calls Tryd.prog 13 #[v, .int .i64 n] w fun e w' => ∃ u, e = .returned u ∧ w'.ownsRow w.heap.size 9 1 u ((waitL n ls).1 ++ (waitL n ls).2).length (((waitL n ls).1 ++ (waitL n ls).2).map Value.string) ∧ Below w.heap.size w w' := by
  obtain ⟨p, cap, rfl, hcap, hmax, hcell⟩ := h
  obtain ⟨i0, hi, hz0, hz1, hz2⟩ := info_parts str_infoP
  go_enter Tryd.func13, Tryd.ntmps13
  go_wp2
  go_loopw [5, 6, 7] (fun u5 u6 u7 wr => ∃ i : Nat, u7 = .int .i64 i ∧ i ≤ ls.length ∧ wr.ownsRow w.heap.size 9 1 u5 (waitL n (ls.take i)).1.length ((waitL n (ls.take i)).1.map Value.string) ∧ wr.ownsRow w.heap.size 9 1 u6 (waitL n (ls.take i)).2.length ((waitL n (ls.take i)).2.map Value.string) ∧ (u5.ownBlock = none ∨ u5.ownBlock ≠ u6.ownBlock) ∧ (waitL n (ls.take i)).1.length ≤ n ∧ (waitL n (ls.take i)).2.length ≤ n ∧ (u6 = .slice none 0 0 ∨ 0 < (waitL n (ls.take i)).2.length) ∧ Below w.heap.size w wr)
    (fun _ _ u7 _ => ls.length - lenV u7)
  case atStart =>
    exact ⟨0, rfl, Nat.zero_le _, World.ownsRow_nil _ _ _ _, World.ownsRow_nil _ _ _ _, .inl rfl, Nat.zero_le _, Nat.zero_le _, .inl rfl, Below.refl _ _⟩
  case round =>
    obtain ⟨i, rfl, hile, r5, r6, hne, hU, hP, hz6, hb⟩ := hrel
    by_cases hlt : i < ls.length
    · obtain ⟨a, rfl, hc, hsp⟩ := hcell i hlt
      obtain ⟨ab, ao, sp⟩ := a
      obtain rfl : sp = none := hsp
      have hs := wait_snoc n (ls.take i) ls[i]
      rw [← List.take_succ_eq_append_getElem hlt] at hs
      generalize ls[i] = l at *
      have hc1 : wr.cell? ⟨ab, ao + i, none⟩ = some (.string l) := (hb.cell (p := ⟨ab, ao + i, none⟩) (lt_of_cell' hc)).trans hc
      clear hcell hc
      obtain ⟨p5, c5, h5⟩ := row_slice r5
      obtain ⟨p6, c6, h6⟩ := row_slice r6
      generalize hq : waitL n (ls.take i) = q at *
      obtain ⟨U, P⟩ := q
      dsimp only at *
      generalize hk5 : U.length = k5 at *
      generalize hk6 : P.length = k6 at *
      subst h5
      subst h6
      have hplain : ∀ (hcv : cutV l = (l, false)), k6 < n → (waitL n (ls.take (i + 1))) = (U, P ++ [l]) := fun hcv hlt => by
        rw [hs]; unfold putF; rw [if_neg (by decide), hcv, if_neg Bool.false_ne_true, if_pos (by omega)]
      have hfullp : ∀ (hcv : cutV l = (l, false)), ¬ k6 < n → (waitL n (ls.take (i + 1))) = (U, P) := fun hcv hlt => by
        rw [hs]; unfold putF; rw [if_neg (by decide), hcv, if_neg Bool.false_ne_true, if_neg (by omega)]
      have hurg : ∀ (hcv : cutV l = (l.extract 1 l.size, true)), k5 < n → (waitL n (ls.take (i + 1))) = (U ++ [l.extract 1 l.size], P) := fun hcv hlt => by
        rw [hs]; unfold putF; rw [if_neg (by decide), hcv, if_pos rfl, if_pos (by omega)]
      have hfullu : ∀ (hcv : cutV l = (l.extract 1 l.size, true)), ¬ k5 < n → (waitL n (ls.take (i + 1))) = (U, P) := fun hcv hlt => by
        rw [hs]; unfold putF; rw [if_neg (by decide), hcv, if_pos rfl, if_neg (by omega)]
      clear hs hq
      by_cases hl : 0 < l.size
      · by_cases h33 : (l[0].toNat : Int) = 33
        · have hcv : cutV l = (l.extract 1 l.size, true) := by rw [cutV_at hl, if_pos h33]
          clear hplain hfullp
          by_cases hr : k5 < n
          · have hnx := hurg hcv hr
            clear hfullu hurg
            go_wp2_with (first
              | (at_builtin; go_loud (refine wpList_append_lies _ rfl _ _ 32 rfl w.heap.size 9 i0 (.string ⟨#[]⟩) 1 16 Tryd.underlying32 hi hz0 hz1 hz2 rfl (by decide) _ _ _ rfl (r5.alloc _) ⟨wr.heap.size, 0, none⟩ 1 1 [Value.string (l.extract 1 l.size)] rfl rfl (cells_new wr _ _) (by simp [Value.oneCell']) (by decide) (by unfold maxLen; omega) (by omega) (by have := hb.size; simp; omega) (wr.heap.size + 1) (by simp) ?_); intro g cg w3 hown' hg3 hat hgl; obtain ⟨r6', hd', hb3⟩ := append_two hb (Nat.le_refl _) r5 r6 hne hg3 hat))
            go_roundw
            case rel =>
              refine ⟨i + 1, by rw [wrap_succ hlt hcap hmax], hlt, ?_, ?_, .inr hd', ?_, ?_, by rw [hnx]; dsimp only; rw [hk6]; exact hz6, hb3⟩
              · rw [hnx]; dsimp only; rw [List.length_append, List.map_append, hk5]; exact hown'
              · rw [hnx]; dsimp only; rw [hk6]; exact r6'
              · rw [hnx]; dsimp only; rw [List.length_append, hk5]; exact hr
              · rw [hnx]; dsimp only; omega
            case measure => rw [wrap_succ hlt hcap hmax]; simp [lenV]; omega
          · have hnx := hfullu hcv hr
            clear hfullu hurg
            go_wp2
            go_roundw
            case rel =>
              refine ⟨i + 1, by rw [wrap_succ hlt hcap hmax], hlt, ?_, ?_, hne, ?_, ?_, by rw [hnx]; dsimp only; rw [hk6]; exact hz6, hb⟩
              · rw [hnx]; dsimp only; rw [hk5]; exact r5
              · rw [hnx]; dsimp only; rw [hk6]; exact r6
              · rw [hnx]; dsimp only; omega
              · rw [hnx]; dsimp only; omega
            case measure => rw [wrap_succ hlt hcap hmax]; simp [lenV]; omega
        · have hcv : cutV l = (l, false) := by rw [cutV_at hl, if_neg h33]
          clear hfullu hurg
          by_cases hr : k6 < n
          · have hnx := hplain hcv hr
            clear hfullp hplain
            go_wp2_with (first
              | (at_builtin; go_loud (refine wpList_append_lies _ rfl _ _ 32 rfl w.heap.size 9 i0 (.string ⟨#[]⟩) 1 16 Tryd.underlying32 hi hz0 hz1 hz2 rfl (by decide) _ _ _ rfl (r6.alloc _) ⟨wr.heap.size, 0, none⟩ 1 1 [Value.string l] rfl rfl (cells_new wr _ _) (by simp [Value.oneCell']) (by decide) (by unfold maxLen; omega) (by omega) (by have := hb.size; simp; omega) (wr.heap.size + 1) (by simp) ?_); intro g cg w3 hown' hg3 hat hgl; obtain ⟨r5', hd', hb3⟩ := append_two hb (Nat.le_refl _) r6 r5 (ne_turn hne) hg3 hat))
            go_roundw
            case rel =>
              refine ⟨i + 1, by rw [wrap_succ hlt hcap hmax], hlt, ?_, ?_, .inr hd'.symm, ?_, ?_, .inr (by rw [hnx]; dsimp only; rw [List.length_append]; exact Nat.succ_pos _), hb3⟩
              · rw [hnx]; dsimp only; rw [hk5]; exact r5'
              · rw [hnx]; dsimp only; rw [List.length_append, List.map_append, hk6]; exact hown'
              · rw [hnx]; dsimp only; omega
              · rw [hnx]; dsimp only; rw [List.length_append, hk6]; exact hr
            case measure => rw [wrap_succ hlt hcap hmax]; simp [lenV]; omega
          · have hnx := hfullp hcv hr
            clear hfullp hplain
            go_wp2
            go_roundw
            case rel =>
              refine ⟨i + 1, by rw [wrap_succ hlt hcap hmax], hlt, ?_, ?_, hne, ?_, ?_, by rw [hnx]; dsimp only; rw [hk6]; exact hz6, hb⟩
              · rw [hnx]; dsimp only; rw [hk5]; exact r5
              · rw [hnx]; dsimp only; rw [hk6]; exact r6
              · rw [hnx]; dsimp only; omega
              · rw [hnx]; dsimp only; omega
            case measure => rw [wrap_succ hlt hcap hmax]; simp [lenV]; omega
      · have hcv : cutV l = (l, false) := cutV_none hl
        clear hfullu hurg
        by_cases hr : k6 < n
        · have hnx := hplain hcv hr
          clear hfullp hplain
          go_wp2_with (first
            | (at_builtin; go_loud (refine wpList_append_lies _ rfl _ _ 32 rfl w.heap.size 9 i0 (.string ⟨#[]⟩) 1 16 Tryd.underlying32 hi hz0 hz1 hz2 rfl (by decide) _ _ _ rfl (r6.alloc _) ⟨wr.heap.size, 0, none⟩ 1 1 [Value.string l] rfl rfl (cells_new wr _ _) (by simp [Value.oneCell']) (by decide) (by unfold maxLen; omega) (by omega) (by have := hb.size; simp; omega) (wr.heap.size + 1) (by simp) ?_); intro g cg w3 hown' hg3 hat hgl; obtain ⟨r5', hd', hb3⟩ := append_two hb (Nat.le_refl _) r6 r5 (ne_turn hne) hg3 hat))
          go_roundw
          case rel =>
            refine ⟨i + 1, by rw [wrap_succ hlt hcap hmax], hlt, ?_, ?_, .inr hd'.symm, ?_, ?_, .inr (by rw [hnx]; dsimp only; rw [List.length_append]; exact Nat.succ_pos _), hb3⟩
            · rw [hnx]; dsimp only; rw [hk5]; exact r5'
            · rw [hnx]; dsimp only; rw [List.length_append, List.map_append, hk6]; exact hown'
            · rw [hnx]; dsimp only; omega
            · rw [hnx]; dsimp only; rw [List.length_append, hk6]; exact hr
          case measure => rw [wrap_succ hlt hcap hmax]; simp [lenV]; omega
        · have hnx := hfullp hcv hr
          clear hfullp hplain
          go_wp2
          go_roundw
          case rel =>
            refine ⟨i + 1, by rw [wrap_succ hlt hcap hmax], hlt, ?_, ?_, hne, ?_, ?_, by rw [hnx]; dsimp only; rw [hk6]; exact hz6, hb⟩
            · rw [hnx]; dsimp only; rw [hk5]; exact r5
            · rw [hnx]; dsimp only; rw [hk6]; exact r6
            · rw [hnx]; dsimp only; omega
            · rw [hnx]; dsimp only; omega
          case measure => rw [wrap_succ hlt hcap hmax]; simp [lenV]; omega
    · obtain rfl : i = ls.length := by omega
      rw [List.take_length] at r5 r6 hU hP hz6
      generalize hq : waitL n ls = q at r5 r6 hU hP hz6
      obtain ⟨U, P⟩ := q
      dsimp only at r5 r6 hU hP hz6
      rcases r6.2 with ⟨rfl, hz⟩ | ⟨g, c6, cur, rfl, hbase, hgg, h1, h2, h3, h4⟩
      · go_wp2_with (at_builtin; go_loud (refine wpList_append_own_none rfl _ _ 32 rfl w.heap.size 9 i0 1 Tryd.underlying32 hi _ _ _ rfl r5 rfl ?_))
        go_ret
        obtain rfl : P = [] := List.length_eq_zero_iff.1 hz
        exact ⟨_, rfl, by simpa [hq] using r5, hb⟩
      · by_cases hz : P.length = 0
        · rcases hz6 with h | h
          · cases h
          · omega
        · go_wp2_with (at_builtin; go_loud (refine wpList_append_lies _ rfl _ _ 32 rfl w.heap.size 9 i0 (.string ⟨#[]⟩) 1 16 Tryd.underlying32 hi hz0 hz1 hz2 rfl (by decide) _ _ _ rfl r5 ⟨g, 0, none⟩ P.length c6 (P.map Value.string) rfl (by simp) (row_cells hgg h1 h3 h4) (by simp [Value.oneCell']) (by omega) (by unfold maxLen; omega) (by omega) hb.size wr.heap.size rfl ?_); intro g' cg w3 hown' hg3 hat hgl)
          go_ret
          refine ⟨_, rfl, ?_, hb.grown hg3 hb.size (fun j hj => (r5.lt j hj).1)⟩
          simpa [hq] using hown'
end Go.Proofs.YtdhdkfnmbdejbaaDoor

/- Timers in order. No conditions. -/
import Derived.Test.YtpbjknkbllcciaaWhA
namespace Go.Proofs.Ytpbjknkbllcciaa
set_option linter.unusedVariables false
set_option linter.unusedSimpArgs false
open Go.RowKit Sym Go.Maps Go.Sort Go.Lib Go.Shelf

theorem str_info : (Try.prog.info? 9).map (fun i => (i.zero, i.size, i.bytes)) = some (some (.string ⟨#[]⟩), 1, 16) := by kernel_rfl
theorem law9 : Keyed Try.prog 9 := string_keyed Try.underlying9
theorem map_attach (ss : List (List UInt8)) (hle : ∀ x ∈ ss, x.length ≤ maxLen) : (ss.attach.map fun x => (⟨x.1, hle x.1 x.2⟩ : KS)).map (·.1) = ss := by
  rw [List.map_map]
  show ss.attach.map (fun x => x.1) = ss
  exact List.attach_map_subtype_val ss
theorem grown_sort (W : World) (g m : Nat) (dk : Array KS) (os : Array Obj) : W.grownBy (sortWorld encK W g 0 m dk os) (some g) := by
  rw [sortWorld_val]
  exact grownBy_sorted _
set_option maxHeartbeats 1000000 in
/-- the order of a list of names that came out of a map -/
theorem sort_call {b n sb bx : Nat} {D : DataW Unit} {W : World} (hbx : W.cell? ⟨bx, 0, none⟩ = some (.pointer (some ⟨sb, 0, none⟩))) (hsb : W.cell? ⟨sb, 1, none⟩ = some (.map (some b))) (hown : W.ownsMap Try.prog 9 (plainElem Try.prog 3) b n D)
    {ss : List (List UInt8)} (hle : ∀ x ∈ ss, x.length ≤ maxLen) (hnd : ss.Nodup) {g cap : Nat} (hg : g ≠ bx ∧ g ≠ sb ∧ g ≠ b) (hH : Holds encStr W g 0 ss.toArray) (hgl : g < W.heap.size) (hsz : ss.length < 4611686018427387904) (hss : ss.Perm (strKeys D)) :
    Calls Try.prog 15 #[.slice (some ⟨g, 0, none⟩) ss.length cap, .func (.func 16) #[] #[.pointer (some ⟨bx, 0, none⟩)]] W fun e w' =>
      e = .returned (.tuple #[]) ∧ ∃ rs nn os, Ord D rs ∧ w' = sortWorld encStr W g 0 nn rs.toArray os := by
  have hks := map_attach ss hle
  generalize (ss.attach.map fun x => (⟨x.1, hle x.1 x.2⟩ : KS)) = ks at hks
  have hlen : ks.length = ss.length := by rw [← hks, List.length_map]
  have hHK : Holds encK W g 0 ks.toArray := by
    intro j hj
    have hj' : j < ss.toArray.size := by simpa [hlen] using hj
    obtain ⟨h1, h2⟩ := hH j hj'
    refine ⟨h1.trans ?_, h2⟩
    rw [getElem!_pos ss.toArray _ hj', getElem!_pos ks.toArray _ hj]
    simp only [List.getElem_toArray]
    congr 1
    show encStr ss[j] = encStr ks[j].1
    congr 1
    simp only [← hks, List.getElem_map]
  have hcmp : CmpLays1 Try.prog 16 #[.pointer (some ⟨bx, 0, none⟩)] encK (fun x y => cfW D x.1 y.1) g 0 ks.toArray.size W := by
    intro m os dk hs x y
    have hgr := grown_sort W g m dk os
    have hb1 : bx < W.heap.size := lt_of_cell hbx
    have hb2 : sb < W.heap.size := lt_of_cell hsb
    exact order1 (D := D) (b := b) (n := n) ((World.cell?_of_block (hgr.block bx hb1 (fun e => hg.1 (by injection e with e; exact e.symm)))).trans hbx) ((World.cell?_of_block (hgr.block sb hb2 (fun e => hg.2.1 (by injection e with e; exact e.symm)))).trans hsb)
      (hown.kept hgr (fun e => hg.2.2 (by injection e with e; exact e.symm))) x y
  have eg : ∀ args w, (callFunc 16 args).run Try.prog w = .ok (.enter 16 args) w := enters_of Try.func16 (by kernel_rfl) rfl
  have hcon := Any.slices_SortFunc Try.sortStr encK (fun _ => rfl) (fun x y => cfW D x.1 y.1) (swoK D) 16 #[.pointer (some ⟨bx, 0, none⟩)] g 0 cap ks.toArray W eg hcmp hHK hgl (by simpa [hlen] using hsz)
  change Calls Try.prog 15 _ _ _ at hcon
  rw [show (ks.toArray.size : Nat) = ss.length by simpa using hlen] at hcon
  refine hcon.mono ?_
  rintro e w' ⟨rfl, d', nn, os, ⟨hp1, -, hp3⟩, hs, rfl⟩
  have hsz' : d'.size = ss.length := by rw [hp1]; simpa using hlen
  have hperm : (d'.toList.map (·.1)).Perm ss := by
    rw [← hks]
    have e1 : (d'.extract 0 ss.length).toList = d'.toList := by simp [← hsz']
    have e2 : (ks.toArray.extract 0 ss.length).toList = ks := by simp [← hlen]
    rw [e1, e2] at hp3
    exact hp3.map _
  refine ⟨rfl, d'.toList.map (·.1), nn, os, ⟨hperm.trans hss, ?_⟩, ?_⟩
  · have hnd' : (d'.toList.map (·.1)).Nodup := hperm.nodup_iff.2 hnd
    rw [List.pairwise_iff_getElem]
    intro i j hi hj hij
    have hi' : i < d'.size := by simpa using hi
    have hj' : j < d'.size := by simpa using hj
    have h1 := hs i j (Nat.zero_le _) hij (by omega)
    rw [getElem!_pos d' _ hj', getElem!_pos d' _ hi'] at h1
    unfold ltOf at h1
    rw [decide_eq_false_iff_not, cfW_neg] at h1
    simp only [List.getElem_map, Array.getElem_toList]
    rcases ltW_tri D d'[i].1 d'[j].1 with h | h | h
    · exact h
    · exfalso
      exact List.pairwise_iff_getElem.1 hnd' i j hi hj hij (by simpa using h)
    · exact absurd h h1
  · rw [sortWorld_val]
    congr 1
    apply Array.toList_inj.1
    simp
theorem owns_below {b n : Nat} {D : DataW Unit} {W w : World} (h : W.ownsMap Try.prog 9 (plainElem Try.prog 3) b n D) (hb : Below W.heap.size W w) : w.ownsMap Try.prog 9 (plainElem Try.prog 3) b n D := by
  have e := hb.block b h.lt
  unfold World.ownsMap at h ⊢
  rw [e]; exact h
/-- what is handed back -/
def OrdAt (w w' : World) (D : DataW Unit) (v : Value) : Prop :=
  ∃ rs, Ord D rs ∧ w'.ownsRow w.heap.size 9 1 v rs.length (rs.map encStr) ∧ Below w.heap.size w w'
theorem perm_nil {D : DataW Unit} (h : ([] : List (List UInt8)).Perm (strKeys D)) : Ord D [] := ⟨h, List.Pairwise.nil⟩
set_option maxRecDepth 100000 in
set_option maxHeartbeats 2000000 in
/-- all names of the timers, in order -/
theorem order_any {b n sb : Nat} {D : DataW Unit} {w : World} (hsb : w.cell? ⟨sb, 1, none⟩ = some (.map (some b))) (hown : w.ownsMap Try.prog 9 (plainElem Try.prog 3) b n D) (hmax : Maps.size D ≤ 1000000000) :
    Calls Try.prog 14 #[.pointer (some ⟨sb, 0, none⟩)] w fun e w' => ∃ v, e = .returned v ∧ OrdAt w w' D v := by
  obtain ⟨i0, hi, hz0, hz1, hz2⟩ := info_parts str_info
  have hsl : sb < w.heap.size := lt_of_cell hsb
  have hown1 := hown.alloc (Obj.cells #[.pointer (some ⟨sb, 0, none⟩)] 25)
  have hbox : (w.alloc (Obj.cells #[.pointer (some ⟨sb, 0, none⟩)] 25)).cell? ⟨w.heap.size, 0, none⟩ = some (.pointer (some ⟨sb, 0, none⟩)) := by simp
  have hW : w.heap.size < (w.alloc (Obj.cells #[.pointer (some ⟨sb, 0, none⟩)] 25)).heap.size := by simp
  have hbW : Below w.heap.size w (w.alloc (Obj.cells #[.pointer (some ⟨sb, 0, none⟩)] 25)) := (Below.refl _ _).alloc (Nat.le_refl _) _
  go_enter Try.func14, Try.ntmps14
  go_wp2_with (first
    | (at_range; refine wpList_range_own _ rfl _ 41 rfl 9 3 law9 Try.underlying41 _ b n _ rfl hown1 ?_; intro w0 hrg0 hg0 hs0)
    | go_in)
  generalize w.alloc (Obj.cells #[.pointer (some ⟨sb, 0, none⟩)] 25) = W1 at *
  have hsb1 : W1.cell? ⟨sb, 1, none⟩ = some (.map (some b)) := (hbW.cell (p := ⟨sb, 1, none⟩) hsl).trans hsb
  have hbl := hown1.lt
  go_frame
  go_loopw [3] (fun v wr => ∃ (left : Lit → Bool) (cnt : Nat) (ss : List (List UInt8)), wr.ranges Try.prog 9 (plainElem Try.prog 3) b W1.heap.size n D left cnt ∧ ss.length + cnt ≤ Maps.size D ∧
      wr.ownsRow W1.heap.size 9 1 v ss.length (ss.map encStr) ∧ Collected D left ss ∧ (∀ x ∈ ss, x.length ≤ maxLen) ∧ Below W1.heap.size W1 wr)
    (fun _ wr => wr.rangeLeft b W1.heap.size)
  case atStart =>
    exact ⟨_, _, [], hrg0, by simp, ⟨rfl, .inl ⟨rfl, rfl⟩⟩, Collected.start D, (fun x hx => by cases hx), (RowKit.Below.refl _ _).grown hg0 (Nat.le_refl _) (fun j hj => by cases hj)⟩
  case round =>
    obtain ⟨left, cnt, ss, hrg, hcs, hrow, hC, hle, hnx⟩ := hrel
    go_wp2_with (first
      | (at_next; refine wpList_next_ranges _ rfl _ rfl 9 law9 (plainElem Try.prog 3) encStr (Value.int .i64) (fun key kl hk => by obtain ⟨x, hx, _⟩ := Maps.keyOf_str Try.underlying9 hk; exact ⟨x, hx⟩) (fun v y hv => by obtain ⟨c, rfl, _⟩ := plainElem_int_inv Try.underlying3 hv; exact ⟨c, rfl⟩) b W1.heap.size n _ _ _ rfl hrg ?_ ?_)
      | go_in)
    · intro hc0 hl0
      have hperm := hC.perm hown1 law9 Try.underlying9 hl0
      rcases hrow.2 with ⟨rfl, hz⟩ | ⟨g, cap, cur, rfl, hbase, hb, h1, h2, h3, h4⟩
      · obtain rfl : ss = [] := List.length_eq_zero_iff.1 hz
        have hc := AnyF.slices_SortFunc_none (P := Try.prog) (ρ := Try.sortStr_ren) { Try.sortStr with } none 0 (.func (.func 16) #[] #[.pointer (some ⟨w.heap.size, 0, none⟩)]) wr
        change Calls Try.prog 15 _ _ _ at hc
        go_wp2_with (go_at_call 15; refine hc.mono ?_; rintro e w' ⟨rfl, rfl⟩)
        go_ret
        exact ⟨_, rfl, [], perm_nil hperm, ⟨rfl, .inl ⟨rfl, rfl⟩⟩, hbW.trans (hnx.mono hbW.size)⟩
      · have hH : Holds encStr wr g 0 ss.toArray := holds_of_block hb (by simpa using h4)
        have hgl : g < wr.heap.size := (Array.getElem?_eq_some_iff.1 hb).1
        have hc := sort_call (cap := cap) ((hnx.cell (p := ⟨w.heap.size, 0, none⟩) hW).trans hbox) ((hnx.cell (p := ⟨sb, 1, none⟩) (Nat.lt_trans hsl hW)).trans hsb1) (owns_below hown1 hnx) hle hC.1 ⟨by omega, by omega, by omega⟩ hH hgl (by omega) hperm
        go_wp2_with (go_at_call 15; refine hc.mono ?_; rintro e w' ⟨rfl, rs, nn, os, hO, rfl⟩)
        go_ret
        have hl : rs.length = ss.length := (hO.1.trans hperm.symm).length_eq
        have hrow' := ownsRow_sorted (n := nn) (os := os) hl hbase hb h1 h2 h3
        refine ⟨_, rfl, rs, hO, ?_, hbW.trans ((hnx.grown (grownBy_sorted _) hnx.size (fun j hj => by cases hj; exact hbase)).mono hbW.size)⟩
        obtain ⟨q1, q2⟩ := hrow'
        rw [hl]
        refine ⟨q1, ?_⟩
        rcases q2 with ⟨q2, -⟩ | ⟨g', cap', cur', q3, q4, q5⟩
        · cases q2
        · exact .inr ⟨g', cap', cur', q3, Nat.le_trans hbW.size q4, q5⟩
    · intro x c kl yd yp w2 cnt2 hkey hlk hv hat hrg2 hlt hg2 hs2 hen
      obtain ⟨x', ex, rfl, hxl⟩ := Maps.keyOf_str Try.underlying9 hkey
      obtain rfl : x = x' := encStr_inj ex
      have hrow2 := hrow.kept hg2 (Or.inr (row_ne_iter hrow hrg).symm)
      clear hs2
      go_wp2_with (first
        | (at_builtin; refine wpList_append_own _ rfl _ _ 30 rfl W1.heap.size 9 i0 (.string ⟨#[]⟩) 1 16 Try.underlying30 hi hz0 hz1 hz2 rfl (by decide) _ _ _ rfl (hrow2.alloc _) ⟨w2.heap.size, 0, none⟩ 1 1 [encStr x] rfl rfl (cell_one_new _ _ _) (by simp [Value.oneCell', encStr]) (by unfold maxLen at *; omega) (by omega) (by have := hnx.size; have := hg2.size; simp; omega) ?_; intro v' w3 hown' hg3 hnil3)
        | go_in)
      have hrg3 := (hrg2.alloc _).kept hg3 (row_ne_low hrow2 hbl) (row_ne_iter hrow2 hrg2)
      go_roundw
      case rel =>
        refine ⟨_, cnt2, ss ++ [x], hrg3, by simp; omega, by simpa using hown', hC.step hlk hat, ?_, ?_⟩
        · intro y hy
          rcases List.mem_append.1 hy with hy | hy
          · exact hle y hy
          · obtain rfl := List.mem_singleton.1 hy
            exact hxl
        · exact ((hnx.grown hg2 hnx.size (fun j hj => by cases hj; exact Nat.le_refl _)).alloc (by have := hnx.size; have := hg2.size; omega) _).grown hg3 (by have := hnx.size; have := hg2.size; simp; omega) (fun j hj => (hrow2.lt j hj).1)
      case measure => rw [hrg3.left_eq, hrg.left_eq]; exact hlt
end Go.Proofs.Ytpbjknkbllcciaa

/- Parts of a proof: FhB, FhC, FhD, FhE. No conditions. -/
import Derived.Test.YthacfgaacleaeaaGreatDoorQ5
import Derived.Laws.AppendOwnNone
import Derived.Test.YthacfgaacleaeaaGreatDoorTie
import Derived.LaidMore
import Derived.LaidHandle
import Derived.Stop.LaidErr
import Derived.SliceStrings
import Derived.ChangeMaps5
set_option linter.unusedVariables false
set_option linter.unusedSimpArgs false
namespace Go.Proofs.YthacfgaacleaeaaGreatDoor
open Go.RowKit Sym Sha Go.ChangeShapes Go.WideShapes Go.ChangeMaps
theorem musAt_new {w : World} {cs : Array Value} {L : List Mp} {c : Nat} (h : cs.toList = cellsM L) (hc : c = L.length) (hm : L.length ≤ 1000) : MusAt (w.alloc (.cells cs 65)) (.slice (some ⟨w.heap.size, 0, none⟩) L.length c) L := by
  subst hc
  have hl : cs.toList.length = L.length * 7 := by rw [h, cellsM_len]
  refine musAt_own (base := 0) ⟨cellsM_len L, .inr ⟨w.heap.size, L.length, cs, rfl, Nat.zero_le _, heap_alloc_new w _, Nat.le_refl _, by unfold maxLen; omega, by simpa using hl, ?_⟩⟩
  rw [h, List.take_of_length_le (by rw [cellsM_len]; omega)]
theorem say_rows {w : World} {v : Value} {L : List Mp} (hL : L.length ≤ 1000) (h : MusAt w v L) (hp : ∀ m ∈ L, PutM m) (hs : ∀ m ∈ L, (tM m).size ≤ 1000000) (hc : chkO L.length (gM L) = 0) :
    Calls Tryz.prog 25 #[.slice none 0 0, v] w fun e w' => (∃ u, e = .returned (.tuple #[u, .int .i64 0]) ∧ ∀ B, BlkSat B w' u (.row L.length 2 fun i j => (gM L i).c j)) ∧ Below w.heap.size w w' :=
  (say_any hL h hp hs (by rw [List.length_map]; exact hc)).mono fun e w' ⟨u, he, ho, hb⟩ => ⟨⟨u, he, by have := row_opN ho; rw [List.length_map] at this; exact this⟩, hb⟩
theorem in3W : In3 5 8 tagW := ⟨by decide, by decide, by decide, by decide, tagW_size⟩
theorem fewW : Few 3 (gM (L3 5 8 tagW)) := few_gM (L := L3 5 8 tagW) (by decide) (L3_small in3W)
abbrev pkW (u : Value) : Value := .agg #[.int .i64 4, .bool false, .int .i64 0, .int .i64 0, .int .i64 0, .int .i64 0, .int .i64 0, .int .i64 0, .int .i64 0, .int .i64 0, .int .i64 0, u, .string ⟨#[120]⟩]
theorem knW : knP kA8 kB8 = true := by decide
theorem chkW1 {w : World} {u : Value} (hE : ErrT w) (h : ∀ B, BlkSat B w u (.row 3 2 fun i j => (gM (L3 5 8 tagW) i).c j)) : Calls Tryz.prog 11 #[.agg #[.string kA8, .string kB8], .int .i64 1, pkW u] w fun e w' => e = .returned (.int .i64 0) ∧ Below w.heap.size w w' := by
  have := check_any kA8 kB8 1 ⟨4, false, 0, 0, 0, 0, 0, 0, 0, 0, 0, xX⟩ hE fewW h (by decide)
  rw [L3_chkG in3W, if_neg (by rw [knW]; decide), if_pos (show tagW = tagP kA8 kB8 (dataText 1 5 8 xX) from rfl)] at this
  exact this
theorem chkW0 {w : World} {u : Value} (hE : ErrT w) (h : ∀ B, BlkSat B w u (.row 3 2 fun i j => (gM (L3 5 8 tagW) i).c j)) : Calls Tryz.prog 11 #[.agg #[.string kA8, .string kB8], .int .i64 0, pkW u] w fun e w' => e = .returned (.int .i64 14) ∧ Below w.heap.size w w' := by
  have := check_any kA8 kB8 0 ⟨4, false, 0, 0, 0, 0, 0, 0, 0, 0, 0, xX⟩ hE fewW h (by decide)
  rw [L3_chkG in3W, if_neg (by rw [knW]; decide), if_neg (fun q => by rw [tag_ne] at q; exact q)] at this
  exact this
theorem saysW {w : World} {u : Value} (h : ∀ B, BlkSat B w u (.row 3 2 fun i j => (gM (L3 5 8 tagW) i).c j)) : Calls Tryz.prog 13 #[.agg #[.string kA8, .string kB8], .int .i64 1, pkW u] w fun e w' => e = .returned (.bool false) ∧ Below w.heap.size w w' := by
  have := says_any kA8 kB8 1 ⟨4, false, 0, 0, 0, 0, 0, 0, 0, 0, 0, xX⟩ fewW h (by decide)
  rw [(L3_says in3W _ _ _).1] at this
  exact this
theorem hearsW {w : World} {u : Value} (h : ∀ B, BlkSat B w u (.row 3 2 fun i j => (gM (L3 5 8 tagW) i).c j)) : Calls Tryz.prog 15 #[.agg #[.string kA8, .string kB8], .int .i64 1, pkW u] w fun e w' => e = .returned (.bool false) ∧ Below w.heap.size w w' := by
  have := hears_any kA8 kB8 1 ⟨4, false, 0, 0, 0, 0, 0, 0, 0, 0, 0, xX⟩ fewW h (by decide)
  rw [(L3_says in3W _ _ _).2] at this
  exact this
theorem newW (W : World) : Calls Tryz.prog 23 #[.string ⟨#[97, 97, 97, 97, 97, 97, 97, 97]⟩, .string ⟨#[98, 98, 98, 98, 98, 98, 98, 98]⟩] W fun e w' => e = .returned (.tuple #[.agg #[.string kA8, .string kB8], .int .i64 0]) ∧ Below W.heap.size W w' := keys_New kA8 kB8 W
theorem datW (W : World) : Calls Tryz.prog 24 #[.agg #[.string kA8, .string kB8], .int .i64 1, .int .i64 5, .int .i64 8, .string ⟨#[120]⟩] W fun e w' => e = .returned (.string tagW) ∧ Below W.heap.size W w' := keys_Data kA8 kB8 1 5 8 xX (by decide) W
theorem sayW {w : World} : Calls Tryz.prog 25 #[.slice none 0 0, .slice (some ⟨w.heap.size, 0, none⟩) 3 3] (w.alloc (.cells #[.int .i64 4, .int .i64 0, .int .i64 0, .int .i64 5, .int .i64 0, .int .i64 0, .string ⟨#[]⟩, .int .i64 6, .int .i64 0, .int .i64 0, .int .i64 8, .int .i64 0, .int .i64 0, .string ⟨#[]⟩, .int .i64 5, .int .i64 0, .int .i64 0, .int .i64 0, .int .i64 0, .int .i64 0, .string tagW] 65)) fun e w' => (∃ u, e = .returned (.tuple #[u, .int .i64 0]) ∧ ∀ B, BlkSat B w' u (.row 3 2 fun i j => (gM (L3 5 8 tagW) i).c j)) ∧ Below w.heap.size w w' := by
  refine (say_rows (L := L3 5 8 tagW) (by decide) (musAt_new rfl rfl (by decide)) (L3_put in3W) (L3_small in3W) (L3_chk in3W)).mono ?_
  rintro e w' ⟨hu, hb⟩
  exact ⟨hu, below_of (by (repeat' (first | (with_reducible exact Below.refl _ _) | (with_reducible refine below_alloc ?_ _) | (with_reducible refine Below.drew ?_) | (with_reducible refine below_drewN ?_ _) | (with_reducible refine Below.setCell ?_ ?_ _) | (with_reducible assumption) | (with_reducible refine below_of ?_ (by assumption)) | omega | (simp only [World.size_alloc, World.size_setCell, World.size_drew, size_drewN] at *; omega) | (simp; omega)))) hb⟩
set_option maxRecDepth 100000 in
set_option maxHeartbeats 4000000 in
theorem works40 {w : World} (hE : ErrT w) : Calls Tryz.prog 8 #[] w fun e w' => e = .returned (.bool true) ∧ Below w.heap.size w w' := by
  have hz := tagW_size
  have hz2 : (tagW.size : Int) = 32 := by omega
  go_enter Tryz.func8, Tryz.ntmps8
  go_upto_region 5 with (first
    | (go_at_call 23; refine (newW _).mono ?_; rintro e w1 ⟨rfl, hb⟩; have hb1 : Below w.heap.size w w1 := below_of (by (repeat' (first | (with_reducible exact Below.refl _ _) | (with_reducible refine below_alloc ?_ _) | (with_reducible refine Below.drew ?_) | (with_reducible refine below_drewN ?_ _) | (with_reducible refine Below.setCell ?_ ?_ _) | (with_reducible assumption) | (with_reducible refine below_of ?_ (by assumption)) | omega | (simp only [World.size_alloc, World.size_setCell, World.size_drew, size_drewN] at *; omega) | (simp; omega)))) hb)
    | (go_at_call 24; refine (datW _).mono ?_; rintro e w2 ⟨rfl, hb⟩; have hb2 : Below w.heap.size w w2 := below_of (by (repeat' (first | (with_reducible exact Below.refl _ _) | (with_reducible refine below_alloc ?_ _) | (with_reducible refine Below.drew ?_) | (with_reducible refine below_drewN ?_ _) | (with_reducible refine Below.setCell ?_ ?_ _) | (with_reducible assumption) | (with_reducible refine below_of ?_ (by assumption)) | omega | (simp only [World.size_alloc, World.size_setCell, World.size_drew, size_drewN] at *; omega) | (simp; omega)))) hb; have hz := hb.size; (try simp only [World.size_alloc, World.size_setCell, World.size_drew, size_drewN] at hz); apply own_step (B := w1.heap.size) hb; (focus (repeat (first | (with_reducible assumption) | (with_reducible exact own_new _ _ _) | ((with_reducible apply own_new'); focus (first | omega | (simp; done) | (simp; omega))) | (with_reducible apply own_drewN) | (with_reducible apply own_drew) | (with_reducible apply own_alloc) | (with_reducible apply own_setT) | ((with_reducible apply own_set_otherH); focus (first | (simp; done) | (simp; omega)))))); intro hO0; have hk0 := hO0.2.1; have hl0 := hO0.1; have hf0 := hO0.2.2; (try simp only [List.setIfInBounds_toArray, List.set_cons_zero, List.set_cons_succ] at hO0 hk0))
    | (go_at_call 25; refine sayW.mono ?_; rintro e w3 ⟨⟨u, rfl, hrow⟩, hb⟩; have hb3 : Below w.heap.size w w3 := below_of hb2 hb; have hz := hb.size; (try simp only [World.size_alloc, World.size_setCell, World.size_drew, size_drewN] at hz); apply own_step (B := w1.heap.size) hb; (focus (repeat (first | (with_reducible assumption) | (with_reducible exact own_new _ _ _) | ((with_reducible apply own_new'); focus (first | omega | (simp; done) | (simp; omega))) | (with_reducible apply own_drewN) | (with_reducible apply own_drew) | (with_reducible apply own_alloc) | (with_reducible apply own_setT) | ((with_reducible apply own_set_otherH); focus (first | (simp; done) | (simp; omega)))))); intro hO0; have hk0 := hO0.2.1; have hl0 := hO0.1; have hf0 := hO0.2.2; (try simp only [List.setIfInBounds_toArray, List.set_cons_zero, List.set_cons_succ] at hO0 hk0); obtain ⟨pu, cu, hu, -⟩ := hrow []; subst hu))
  have hrow4 := row_belowF hrow ((Below.refl _ w3).alloc (Nat.le_refl _) (.cells #[.int .i64 4, .bool false, .int .i64 0, .int .i64 0, .int .i64 0, .int .i64 0, .int .i64 0, .int .i64 0, .int .i64 0, .int .i64 0, .int .i64 0, .slice pu 3 cu, .string ⟨#[120]⟩] 31))
  have hx := own_new w3 #[.int .i64 4, .bool false, .int .i64 0, .int .i64 0, .int .i64 0, .int .i64 0, .int .i64 0, .int .i64 0, .int .i64 0, .int .i64 0, .int .i64 0, .slice pu 3 cu, .string ⟨#[120]⟩] 31
  have hO := own_alloc hO0 (.cells #[.int .i64 4, .bool false, .int .i64 0, .int .i64 0, .int .i64 0, .int .i64 0, .int .i64 0, .int .i64 0, .int .i64 0, .int .i64 0, .int .i64 0, .slice pu 3 cu, .string ⟨#[120]⟩] 31)
  have hbx := below_alloc hb3 (.cells #[.int .i64 4, .bool false, .int .i64 0, .int .i64 0, .int .i64 0, .int .i64 0, .int .i64 0, .int .i64 0, .int .i64 0, .int .i64 0, .int .i64 0, .slice pu 3 cu, .string ⟨#[120]⟩] 31)
  have hEx := hE.below hbx
  clear hO0 hk0 hl0 hf0 hrow hb hz hb1 hb2 hb3
  generalize (w3.alloc _) = W at *
  generalize w3.heap.size = B6 at *
  generalize w1.heap.size = B1 at *
  have hk0 := hO.2.1
  have hk1 := hx.2.1
  go_wp2_with (first
    | (go_at_call 11; (with_reducible refine (chkW1 hEx hrow4).mono ?_); rintro e wq ⟨rfl, hb⟩; replace hEx := hEx.below hb; replace hrow4 := row_belowF hrow4 hb; replace hO := own_below hO hb; replace hx := own_below hx hb; replace hbx := below_of hbx hb; have hk0 := hO.2.1; have hk1 := hx.2.1)
    | (go_at_call 11; (with_reducible refine (chkW0 hEx hrow4).mono ?_); rintro e wq ⟨rfl, hb⟩; replace hEx := hEx.below hb; replace hrow4 := row_belowF hrow4 hb; replace hO := own_below hO hb; replace hx := own_below hx hb; replace hbx := below_of hbx hb; have hk0 := hO.2.1; have hk1 := hx.2.1)
    | (go_at_call 13; (with_reducible refine (saysW hrow4).mono ?_); rintro e wq ⟨rfl, hb⟩; replace hEx := hEx.below hb; replace hrow4 := row_belowF hrow4 hb; replace hO := own_below hO hb; replace hx := own_below hx hb; replace hbx := below_of hbx hb; have hk0 := hO.2.1; have hk1 := hx.2.1)
    | (go_at_call 15; (with_reducible refine (hearsW hrow4).mono ?_); rintro e wq ⟨rfl, hb⟩; replace hEx := hEx.below hb; replace hrow4 := row_belowF hrow4 hb; replace hO := own_below hO hb; replace hx := own_below hx hb; replace hbx := below_of hbx hb; have hk0 := hO.2.1; have hk1 := hx.2.1))
  go_ret
  exact ⟨rfl, hbx⟩
theorem kA_nil (a b : ByteArray) : knP (kA a b) (kB a b) = !decide (kA a b = nilB) := by
  unfold knP kA kB
  by_cases h : okK a b = true
  · rw [if_pos h, if_pos h]
    obtain ⟨ha, hb⟩ := (okK_iff a b).1 h
    have hn : ¬ a = nilB := fun e => by rw [e] at ha; cases ha
    have hd : decide (a = nilB) = false := decide_eq_false hn
    rw [hd]; rfl
  · rw [if_neg h, if_neg h]; rfl
theorem tag_same (a b : ByteArray) (h : knP (kA a b) (kB a b) = true) (x : ByteArray) : tagP (kA a b) (kB a b) x = tagR (kA a b) (kB a b) x := by
  have h2 := h
  rw [kA_nil] at h2
  have hn : ¬ kA a b = nilB := by simpa using h2
  unfold tagP tagR
  rw [if_neg (fun q => hn q.1), if_neg hn]
theorem chk_pair (a b : ByteArray) (side : Int) (g : Nat → Op) (n : Nat) (data : ByteArray) : chkG (!decide (kA a b = nilB)) (tagR (kA a b) (kB a b)) side g n data = chkG (knP (kA a b) (kB a b)) (tagP (kA a b) (kB a b)) side g n data := by
  rw [← kA_nil]
  cases h : knP (kA a b) (kB a b) with
  | false => rfl
  | true => unfold chkG; rw [tag_same a b h]
theorem says_pair (a b : ByteArray) (side : Int) (g : Nat → Op) (n : Nat) : saysG (!decide (kA a b = nilB)) (tagR (kA a b) (kB a b)) side g n = saysG (knP (kA a b) (kB a b)) (tagP (kA a b) (kB a b)) side g n := by
  rw [← kA_nil]
  cases h : knP (kA a b) (kB a b) with
  | false => rfl
  | true => unfold saysG; rw [tag_same a b h]
theorem hears_pair (a b : ByteArray) (side : Int) (g : Nat → Op) (n : Nat) : hearsG (!decide (kA a b = nilB)) (tagR (kA a b) (kB a b)) side g n = hearsG (knP (kA a b) (kB a b)) (tagP (kA a b) (kB a b)) side g n := by
  rw [← kA_nil]
  cases h : knP (kA a b) (kB a b) with
  | false => rfl
  | true => unfold hearsG; rw [tag_same a b h]
theorem kA_size (a b : ByteArray) (h : a.size ≤ 1000) : (kA a b).size ≤ 1000 := by unfold kA; split; exact h; decide
theorem kB_size (a b : ByteArray) (h : b.size ≤ 1000) : (kB a b).size ≤ 1000 := by unfold kB; split; exact h; decide
def lsO (n : Nat) (g : Nat → Op) : List Op := (List.range n).map g
theorem lsO_len (n : Nat) (g : Nat → Op) : (lsO n g).length = n := by unfold lsO; simp
theorem lsO_at (n : Nat) (g : Nat → Op) (i : Nat) (h : i < n) : opN (lsO n g) i = g i := by
  unfold opN lsO
  rw [List.getD_eq_getElem?_getD, List.getElem?_eq_getElem (by simpa using h)]
  simp
theorem rows_lsO {w : World} {u : Value} {n : Nat} {g : Nat → Op} {base : Nat} (h : w.ownsRow base 70 2 u n (opCells (lsO n g))) : ∀ B, BlkSat B w u (.row n 2 fun i j => (g i).c j) := fun B => by
  have h1 : w.ownsRow base 70 2 u (lsO n g).length (opCells (lsO n g)) := by rw [lsO_len]; exact h
  have h2 := row_opN h1 B
  rw [lsO_len] at h2
  refine row_congr h2 fun i j hi hj => ?_
  rw [lsO_at n g i hi]
theorem opCells_get (l : List Op) (j : Nat) (u : Value) (h : (opCells l)[j]? = some u) : ∃ i k, k < 2 ∧ i < l.length ∧ j = i * 2 + k ∧ u = (opN l i).c k := by
  have hl : j < l.length * 2 := by
    rcases Nat.lt_or_ge j (l.length * 2) with q | q
    · exact q
    · rw [List.getElem?_eq_none (by rw [opCells_length]; exact q)] at h; cases h
  obtain ⟨i, k, hk, rfl⟩ : ∃ i k, k < 2 ∧ j = i * 2 + k := ⟨j / 2, j % 2, by omega, by omega⟩
  have hi : i < l.length := by omega
  refine ⟨i, k, hk, hi, rfl, ?_⟩
  obtain ⟨e0, e1⟩ := opCells_at l i hi
  have hj : cellAt (opCells l) (i * 2 + k) = u := by unfold cellAt; rw [List.getD_eq_getElem?_getD, h]; rfl
  rw [← hj]
  match k, hk with
  | 0, _ => exact e0
  | 1, _ => exact e1
theorem opCells_oneV (l : List Op) : ∀ u ∈ opCells l, u.oneCell' = true := by
  intro u hu
  unfold opCells at hu
  rw [List.mem_flatMap] at hu
  obtain ⟨o, -, hu⟩ := hu
  simp only [List.mem_cons, List.not_mem_nil, or_false] at hu
  rcases hu with rfl | rfl <;> rfl
abbrev pkD (o : Value) (data : ByteArray) : Value := .agg #[.int .i64 4, .bool false, .int .i64 0, .int .i64 0, .int .i64 0, .int .i64 0, .int .i64 0, .int .i64 0, .int .i64 0, .int .i64 0, .int .i64 0, o, .string data]
theorem own_empty {w : World} {base k : Nat} (hk : k = w.heap.size) (h : base ≤ w.heap.size) : (w.alloc (.cells #[] 70)).ownsRow base 70 2 (.slice (some ⟨k, 0, none⟩) 0 0) 0 [] := by
  subst hk
  exact ⟨rfl, .inr ⟨w.heap.size, 0, #[], rfl, h, heap_alloc_new w _, Nat.le_refl _, Nat.zero_le _, rfl, rfl⟩⟩
theorem row_sliceF {w : World} {base : Nat} {e : TypeId} {sz : Nat} {u : Value} {n : Nat} {xs : List Value} (h : w.ownsRow base e sz u n xs) : ∃ p cap, u = .slice p n cap := by
  rcases h.2 with ⟨rfl, rfl⟩ | ⟨g, cap, cur, rfl, -⟩
  · exact ⟨none, 0, rfl⟩
  · exact ⟨_, _, rfl⟩
theorem own_grownF {w w' : World} {row : Option Nat} {B : Nat} {cs : Array Value} (h : Own w B cs) (hg : w.grownBy w' row) (hne : some B ≠ row) : Own w' B cs := by
  have hk := hg.block B h.1 hne
  exact ⟨Nat.lt_of_lt_of_le h.1 hg.size, fun j => by rw [World.cell?_of_block (w := w) (a := ⟨B, j, none⟩) hk]; exact h.2.1 j, fun j => by rw [World.frozen?_of_block (w := w) (a := ⟨B, j, none⟩) hk]; exact h.2.2 j⟩
theorem row_zero (W : World) (p : Option Addr) (g : Nat → Op) : ∀ B, BlkSat B W (.slice p 0 0) (.row 0 2 fun i j => (g i).c j) := fun B => ⟨p, 0, rfl, Nat.le_refl _, Nat.zero_le _, fun i j hi _ => absurd hi (Nat.not_lt_zero _)⟩
theorem news_at {w W : World} {n : Nat} {g : Nat → Op} {ad : Addr} (hb : Below w.heap.size w W) (h : ∀ i, i < n → ad.spot = none ∧ ad.block < w.heap.size ∧ ∀ j, j < 2 → w.cell? ⟨ad.block, ad.off + i * 2 + j, none⟩ = some ((g i).c j)) : ∀ j u, (opCells (lsO n g))[j]? = some u → W.cell? (ad.add j) = some u := by
  intro j u hj
  obtain ⟨i, k, hk, hi, rfl, rfl⟩ := opCells_get _ _ _ hj
  rw [lsO_len] at hi
  obtain ⟨hs, hl, hc⟩ := h i hi
  rw [lsO_at n g i hi]
  obtain ⟨b, o, sp⟩ := ad
  obtain rfl : sp = none := hs
  have ea : (⟨b, o, none⟩ : Addr).add (i * 2 + k) = ⟨b, o + i * 2 + k, none⟩ := by
    simp only [Addr.add]
    split
    · rename_i h0; rw [show o + i * 2 + k = o by omega]
    · rw [Nat.add_assoc]
  rw [ea]
  exact (hb.cell (p := ⟨b, o + i * 2 + k, none⟩) hl).trans (hc k hk)
structure Six (W : World) (A B data : ByteArray) (side : Int) (o : Value) (Z : Int) (S H : Bool) : Prop where
  c : ∀ p : BelowF W, Calls Tryz.prog 11 #[.agg #[.string A, .string B], .int .i64 side, pkD o data] p.w fun e w' => e = .returned (.int .i64 Z) ∧ Below p.w.heap.size p.w w'
  rc : ∀ p : BelowF W, Calls Tryz.prog 12 #[.string A, .string B, .int .i64 side, pkD o data] p.w fun e w' => e = .returned (.int .i64 Z) ∧ Below p.w.heap.size p.w w'
  s : ∀ p : BelowF W, Calls Tryz.prog 13 #[.agg #[.string A, .string B], .int .i64 side, pkD o data] p.w fun e w' => e = .returned (.bool S) ∧ Below p.w.heap.size p.w w'
  rs : ∀ p : BelowF W, Calls Tryz.prog 14 #[.string A, .string B, .int .i64 side, pkD o data] p.w fun e w' => e = .returned (.bool S) ∧ Below p.w.heap.size p.w w'
  h : ∀ p : BelowF W, Calls Tryz.prog 15 #[.agg #[.string A, .string B], .int .i64 side, pkD o data] p.w fun e w' => e = .returned (.bool H) ∧ Below p.w.heap.size p.w w'
  rh : ∀ p : BelowF W, Calls Tryz.prog 16 #[.string A, .string B, .int .i64 side, pkD o data] p.w fun e w' => e = .returned (.bool H) ∧ Below p.w.heap.size p.w w'
theorem six_at {W : World} {o : Value} {n : Nat} {g : Nat → Op} (a b data : ByteArray) (side : Int) (hE : ErrT W) (hf : Few n g) (h : ∀ B, BlkSat B W o (.row n 2 fun i j => (g i).c j)) (hs : a.size ≤ 1000 ∧ b.size ≤ 1000 ∧ data.size ≤ 1000) : ∃ Z S H, Six W (kA a b) (kB a b) data side o Z S H := by
  have hA := kA_size a b hs.1
  have hB := kB_size a b hs.2.1
  let p : Pk := ⟨4, false, 0, 0, 0, 0, 0, 0, 0, 0, 0, data⟩
  have hd : p.data.size ≤ 1000000 := by show data.size ≤ _; omega
  refine ⟨chkG (knP (kA a b) (kB a b)) (tagP (kA a b) (kB a b)) side g n data, saysG (knP (kA a b) (kB a b)) (tagP (kA a b) (kB a b)) side g n, hearsG (knP (kA a b) (kB a b)) (tagP (kA a b) (kB a b)) side g n, ?_, ?_, ?_, ?_, ?_, ?_⟩
  · exact fun q => check_any (kA a b) (kB a b) side p (hE.below q.h) hf (row_belowF h q.h) ⟨hA, hB, hd⟩
  · intro q
    have := rchk_any (kA a b) (kB a b) side p hf (row_belowF h q.h) ⟨hA, hB, hd⟩
    rw [chk_pair] at this
    exact this
  · exact fun q => says_any (kA a b) (kB a b) side p hf (row_belowF h q.h) ⟨hA, hB⟩
  · intro q
    have := rsays_any (kA a b) (kB a b) side p hf (row_belowF h q.h) ⟨hA, hB⟩
    rw [says_pair] at this
    exact this
  · exact fun q => hears_any (kA a b) (kB a b) side p hf (row_belowF h q.h) ⟨hA, hB⟩
  · intro q
    have := rhears_any (kA a b) (kB a b) side p hf (row_belowF h q.h) ⟨hA, hB⟩
    rw [hears_pair] at this
    exact this
set_option maxRecDepth 100000 in
set_option maxHeartbeats 4000000 in
theorem checks_any {w : World} {v : Value} {n : Nat} {g : Nat → Op} (k0 k1 : ByteArray) (sd : Bool) (data : ByteArray) (hE : ErrT w) (hn : n ≤ maxLen) (hv : IsRows w 2 v n fun i j => (g i).c j) (hz : k0.size ≤ maxLen ∧ k1.size ≤ maxLen ∧ data.size ≤ maxLen) :
    Calls Tryz.prog 3 #[.agg #[.string k0, .string k1], .bool sd, v, .string data] w fun e w' => e = .returned (.bool true) ∧ Below w.heap.size w w' := by
  have hwk := fun W (h : Below w.heap.size w W) => works40 (hE.below h)
  have hgr := fun W (h : Below w.heap.size w W) => law07_great n g hn v W (row_of (hv.below h))
  have hpr := pair40 k0 k1
  by_cases hbig : 1000 < k0.size ∨ 1000 < k1.size ∨ 1000 < data.size ∨ greatL n g = true
  · have d0 : decide (((k0.size : Int)) > 1000) = decide (1000 < k0.size) := by rw [decide_eq_decide]; omega
    have d1 : decide (((k1.size : Int)) > 1000) = decide (1000 < k1.size) := by rw [decide_eq_decide]; omega
    have d2 : decide (((data.size : Int)) > 1000) = decide (1000 < data.size) := by rw [decide_eq_decide]; omega
    obtain ⟨G, hG⟩ : ∃ G, greatL n g = G := ⟨_, rfl⟩
    rw [hG] at hgr hbig
    by_cases h0 : (1000 : Int) < (k0.size : Int)
    · go_enter Tryz.func3, Tryz.ntmps3
      go_wp2_with (first
        | (go_at_call 8; (with_reducible refine (hwk _ (by (repeat' (first | (with_reducible exact Below.refl _ _) | (with_reducible refine below_alloc ?_ _) | (with_reducible refine Below.drew ?_) | (with_reducible refine below_drewN ?_ _) | (with_reducible refine Below.setCell ?_ ?_ _) | (with_reducible assumption) | (with_reducible refine below_of ?_ (by assumption)) | omega | (simp only [World.size_alloc, World.size_setCell, World.size_drew, size_drewN] at *; omega) | (simp; omega))))).mono ?_); rintro e w1 ⟨rfl, hb⟩; have hb1 : Below w.heap.size w w1 := below_of (by (repeat' (first | (with_reducible exact Below.refl _ _) | (with_reducible refine below_alloc ?_ _) | (with_reducible refine Below.drew ?_) | (with_reducible refine below_drewN ?_ _) | (with_reducible refine Below.setCell ?_ ?_ _) | (with_reducible assumption) | (with_reducible refine below_of ?_ (by assumption)) | omega | (simp only [World.size_alloc, World.size_setCell, World.size_drew, size_drewN] at *; omega) | (simp; omega)))) hb; have hz := hb.size; (try simp only [World.size_alloc, World.size_setCell, World.size_drew, size_drewN] at hz); apply own_step (B := w.heap.size) hb; (focus (repeat (first | (with_reducible assumption) | (with_reducible exact own_new _ _ _) | ((with_reducible apply own_new'); focus (first | omega | (simp; done) | (simp; omega))) | (with_reducible apply own_drewN) | (with_reducible apply own_drew) | (with_reducible apply own_alloc) | (with_reducible apply own_setT) | ((with_reducible apply own_set_otherH); focus (first | (simp; done) | (simp; omega)))))); intro hO0; have hk0 := hO0.2.1; have hl0 := hO0.1; have hf0 := hO0.2.2; (try simp only [List.setIfInBounds_toArray, List.set_cons_zero, List.set_cons_succ] at hO0 hk0)))
      go_ret
      exact ⟨rfl, hb1⟩
    · by_cases h1 : (1000 : Int) < (k1.size : Int)
      · go_enter Tryz.func3, Tryz.ntmps3
        go_wp2_with (first
          | (go_at_call 8; (with_reducible refine (hwk _ (by (repeat' (first | (with_reducible exact Below.refl _ _) | (with_reducible refine below_alloc ?_ _) | (with_reducible refine Below.drew ?_) | (with_reducible refine below_drewN ?_ _) | (with_reducible refine Below.setCell ?_ ?_ _) | (with_reducible assumption) | (with_reducible refine below_of ?_ (by assumption)) | omega | (simp only [World.size_alloc, World.size_setCell, World.size_drew, size_drewN] at *; omega) | (simp; omega))))).mono ?_); rintro e w1 ⟨rfl, hb⟩; have hb1 : Below w.heap.size w w1 := below_of (by (repeat' (first | (with_reducible exact Below.refl _ _) | (with_reducible refine below_alloc ?_ _) | (with_reducible refine Below.drew ?_) | (with_reducible refine below_drewN ?_ _) | (with_reducible refine Below.setCell ?_ ?_ _) | (with_reducible assumption) | (with_reducible refine below_of ?_ (by assumption)) | omega | (simp only [World.size_alloc, World.size_setCell, World.size_drew, size_drewN] at *; omega) | (simp; omega)))) hb; have hz := hb.size; (try simp only [World.size_alloc, World.size_setCell, World.size_drew, size_drewN] at hz); apply own_step (B := w.heap.size) hb; (focus (repeat (first | (with_reducible assumption) | (with_reducible exact own_new _ _ _) | ((with_reducible apply own_new'); focus (first | omega | (simp; done) | (simp; omega))) | (with_reducible apply own_drewN) | (with_reducible apply own_drew) | (with_reducible apply own_alloc) | (with_reducible apply own_setT) | ((with_reducible apply own_set_otherH); focus (first | (simp; done) | (simp; omega)))))); intro hO0; have hk0 := hO0.2.1; have hl0 := hO0.1; have hf0 := hO0.2.2; (try simp only [List.setIfInBounds_toArray, List.set_cons_zero, List.set_cons_succ] at hO0 hk0)))
        go_ret
        exact ⟨rfl, hb1⟩
      · by_cases h2 : (1000 : Int) < (data.size : Int)
        · go_enter Tryz.func3, Tryz.ntmps3
          go_wp2_with (first
            | (go_at_call 8; (with_reducible refine (hwk _ (by (repeat' (first | (with_reducible exact Below.refl _ _) | (with_reducible refine below_alloc ?_ _) | (with_reducible refine Below.drew ?_) | (with_reducible refine below_drewN ?_ _) | (with_reducible refine Below.setCell ?_ ?_ _) | (with_reducible assumption) | (with_reducible refine below_of ?_ (by assumption)) | omega | (simp only [World.size_alloc, World.size_setCell, World.size_drew, size_drewN] at *; omega) | (simp; omega))))).mono ?_); rintro e w1 ⟨rfl, hb⟩; have hb1 : Below w.heap.size w w1 := below_of (by (repeat' (first | (with_reducible exact Below.refl _ _) | (with_reducible refine below_alloc ?_ _) | (with_reducible refine Below.drew ?_) | (with_reducible refine below_drewN ?_ _) | (with_reducible refine Below.setCell ?_ ?_ _) | (with_reducible assumption) | (with_reducible refine below_of ?_ (by assumption)) | omega | (simp only [World.size_alloc, World.size_setCell, World.size_drew, size_drewN] at *; omega) | (simp; omega)))) hb; have hz := hb.size; (try simp only [World.size_alloc, World.size_setCell, World.size_drew, size_drewN] at hz); apply own_step (B := w.heap.size) hb; (focus (repeat (first | (with_reducible assumption) | (with_reducible exact own_new _ _ _) | ((with_reducible apply own_new'); focus (first | omega | (simp; done) | (simp; omega))) | (with_reducible apply own_drewN) | (with_reducible apply own_drew) | (with_reducible apply own_alloc) | (with_reducible apply own_setT) | ((with_reducible apply own_set_otherH); focus (first | (simp; done) | (simp; omega)))))); intro hO0; have hk0 := hO0.2.1; have hl0 := hO0.1; have hf0 := hO0.2.2; (try simp only [List.setIfInBounds_toArray, List.set_cons_zero, List.set_cons_succ] at hO0 hk0)))
          go_ret
          exact ⟨rfl, hb1⟩
        · obtain rfl : G = true := by rcases hbig with q | q | q | q; omega; omega; omega; exact q
          go_enter Tryz.func3, Tryz.ntmps3
          go_wp2_with (first
            | (go_at_call 8; (with_reducible refine (hwk _ (by (repeat' (first | (with_reducible exact Below.refl _ _) | (with_reducible refine below_alloc ?_ _) | (with_reducible refine Below.drew ?_) | (with_reducible refine below_drewN ?_ _) | (with_reducible refine Below.setCell ?_ ?_ _) | (with_reducible assumption) | (with_reducible refine below_of ?_ (by assumption)) | omega | (simp only [World.size_alloc, World.size_setCell, World.size_drew, size_drewN] at *; omega) | (simp; omega))))).mono ?_); rintro e w1 ⟨rfl, hb⟩; have hb1 : Below w.heap.size w w1 := below_of (by (repeat' (first | (with_reducible exact Below.refl _ _) | (with_reducible refine below_alloc ?_ _) | (with_reducible refine Below.drew ?_) | (with_reducible refine below_drewN ?_ _) | (with_reducible refine Below.setCell ?_ ?_ _) | (with_reducible assumption) | (with_reducible refine below_of ?_ (by assumption)) | omega | (simp only [World.size_alloc, World.size_setCell, World.size_drew, size_drewN] at *; omega) | (simp; omega)))) hb; have hz := hb.size; (try simp only [World.size_alloc, World.size_setCell, World.size_drew, size_drewN] at hz); apply own_step (B := w.heap.size) hb; (focus (repeat (first | (with_reducible assumption) | (with_reducible exact own_new _ _ _) | ((with_reducible apply own_new'); focus (first | omega | (simp; done) | (simp; omega))) | (with_reducible apply own_drewN) | (with_reducible apply own_drew) | (with_reducible apply own_alloc) | (with_reducible apply own_setT) | ((with_reducible apply own_set_otherH); focus (first | (simp; done) | (simp; omega)))))); intro hO0; have hk0 := hO0.2.1; have hl0 := hO0.1; have hf0 := hO0.2.2; (try simp only [List.setIfInBounds_toArray, List.set_cons_zero, List.set_cons_succ] at hO0 hk0))
            | (go_at_call 9; (with_reducible refine (hgr _ hb1).mono ?_); rintro e w2 ⟨rfl, hb⟩; have hb2 : Below w.heap.size w w2 := below_of hb1 hb; have hz := hb.size; (try simp only [World.size_alloc, World.size_setCell, World.size_drew, size_drewN] at hz); apply own_step (B := w.heap.size) hb; (focus (repeat (first | (with_reducible assumption) | (with_reducible exact own_new _ _ _) | ((with_reducible apply own_new'); focus (first | omega | (simp; done) | (simp; omega))) | (with_reducible apply own_drewN) | (with_reducible apply own_drew) | (with_reducible apply own_alloc) | (with_reducible apply own_setT) | ((with_reducible apply own_set_otherH); focus (first | (simp; done) | (simp; omega)))))); intro hO0; have hk0 := hO0.2.1; have hl0 := hO0.1; have hf0 := hO0.2.2; (try simp only [List.setIfInBounds_toArray, List.set_cons_zero, List.set_cons_succ] at hO0 hk0)))
          go_ret
          exact ⟨rfl, hb2⟩
  · have z0 : k0.size ≤ 1000 := by omega
    have z1 : k1.size ≤ 1000 := by omega
    have z2 : data.size ≤ 1000 := by omega
    have hG : greatL n g = false := by
      cases hq : greatL n g with
      | false => rfl
      | true => exact absurd (.inr (.inr (.inr hq))) hbig
    have hf := Few.of hG
    rw [hG] at hgr
    have hsix := fun (W : World) (hW : Below w.heap.size w W) (o : Value) (side : Int) (hr : ∀ B, BlkSat B W o (.row n 2 fun i j => (g i).c j)) => six_at k0 k1 data side (hE.below hW) hf hr ⟨z0, z1, z2⟩
    have h0 : ¬ (1000 : Int) < (k0.size : Int) := by omega
    have h1 : ¬ (1000 : Int) < (k1.size : Int) := by omega
    have h2 : ¬ (1000 : Int) < (data.size : Int) := by omega
    obtain ⟨i0, hi, hz0, hz1, hz2⟩ := info_parts opt_infoP
    generalize kA k0 k1 = A at *
    generalize kB k0 k1 = B at *
    have hn1 := hf.1
    clear hE hbig hG hf hz z0 z1 z2
    rcases hv with ⟨rfl, rfl⟩ | ⟨ad, cap, rfl, hcap, hmax, hcell⟩
    · cases sd
      · go_enter Tryz.func3, Tryz.ntmps3
        go_upto_region 10 with (first
                | (go_at_call 8; (with_reducible refine (hwk _ (by (repeat' (first | (with_reducible exact Below.refl _ _) | (with_reducible refine below_alloc ?_ _) | (with_reducible refine Below.drew ?_) | (with_reducible refine below_drewN ?_ _) | (with_reducible refine Below.setCell ?_ ?_ _) | (with_reducible assumption) | (with_reducible refine below_of ?_ (by assumption)) | omega | (simp only [World.size_alloc, World.size_setCell, World.size_drew, size_drewN] at *; omega) | (simp; omega))))).mono ?_); rintro e w1 ⟨rfl, hb⟩; have hb1 : Below w.heap.size w w1 := below_of (by (repeat' (first | (with_reducible exact Below.refl _ _) | (with_reducible refine below_alloc ?_ _) | (with_reducible refine Below.drew ?_) | (with_reducible refine below_drewN ?_ _) | (with_reducible refine Below.setCell ?_ ?_ _) | (with_reducible assumption) | (with_reducible refine below_of ?_ (by assumption)) | omega | (simp only [World.size_alloc, World.size_setCell, World.size_drew, size_drewN] at *; omega) | (simp; omega)))) hb; have hz := hb.size; (try simp only [World.size_alloc, World.size_setCell, World.size_drew, size_drewN] at hz); apply own_step (B := w.heap.size) hb; (focus (repeat (first | (with_reducible assumption) | (with_reducible exact own_new _ _ _) | ((with_reducible apply own_new'); focus (first | omega | (simp; done) | (simp; omega))) | (with_reducible apply own_drewN) | (with_reducible apply own_drew) | (with_reducible apply own_alloc) | (with_reducible apply own_setT) | ((with_reducible apply own_set_otherH); focus (first | (simp; done) | (simp; omega)))))); intro hO0; have hk0 := hO0.2.1; have hl0 := hO0.1; have hf0 := hO0.2.2; (try simp only [List.setIfInBounds_toArray, List.set_cons_zero, List.set_cons_succ] at hO0 hk0))
                | (go_at_call 9; (with_reducible refine (hgr _ hb1).mono ?_); rintro e w2 ⟨rfl, hb⟩; have hb2 : Below w.heap.size w w2 := below_of hb1 hb; have hz := hb.size; (try simp only [World.size_alloc, World.size_setCell, World.size_drew, size_drewN] at hz); apply own_step (B := w.heap.size) hb; (focus (repeat (first | (with_reducible assumption) | (with_reducible exact own_new _ _ _) | ((with_reducible apply own_new'); focus (first | omega | (simp; done) | (simp; omega))) | (with_reducible apply own_drewN) | (with_reducible apply own_drew) | (with_reducible apply own_alloc) | (with_reducible apply own_setT) | ((with_reducible apply own_set_otherH); focus (first | (simp; done) | (simp; omega)))))); intro hO0; have hk0 := hO0.2.1; have hl0 := hO0.1; have hf0 := hO0.2.2; (try simp only [List.setIfInBounds_toArray, List.set_cons_zero, List.set_cons_succ] at hO0 hk0))
                | (go_at_call 10; (with_reducible refine (hpr _).mono ?_); rintro e w3 ⟨rfl, hb⟩; have hb3 : Below w.heap.size w w3 := below_of hb2 hb; clear hk0 hl0 hf0 hO0))
        have hOp : Own ((w3.alloc (.cells #[.string A, .string B] 27)).alloc (.cells #[] 70)) w3.heap.size #[.string A, .string B] := own_alloc (own_new _ _ _) _
        have hb5 : Below w.heap.size w ((w3.alloc (.cells #[.string A, .string B] 27)).alloc (.cells #[] 70)) := by (repeat' (first | (with_reducible exact Below.refl _ _) | (with_reducible refine below_alloc ?_ _) | (with_reducible refine Below.drew ?_) | (with_reducible refine below_drewN ?_ _) | (with_reducible refine Below.setCell ?_ ?_ _) | (with_reducible assumption) | (with_reducible refine below_of ?_ (by assumption)) | omega | (simp only [World.size_alloc, World.size_setCell, World.size_drew, size_drewN] at *; omega) | (simp; omega)))
        have hrow := row_zero ((w3.alloc (.cells #[.string A, .string B] 27)).alloc (.cells #[] 70)) (some ⟨w3.heap.size + 1, 0, none⟩) g
        have hx := own_new' (B := w3.heap.size + 1 + 1) ((w3.alloc (.cells #[.string A, .string B] 27)).alloc (.cells #[] 70)) #[.int .i64 4, .bool false, .int .i64 0, .int .i64 0, .int .i64 0, .int .i64 0, .int .i64 0, .int .i64 0, .int .i64 0, .int .i64 0, .int .i64 0, .slice (some ⟨w3.heap.size + 1, 0, none⟩) 0 0, .string data] 31 (by simp)
        have hO := own_alloc hOp (.cells #[.int .i64 4, .bool false, .int .i64 0, .int .i64 0, .int .i64 0, .int .i64 0, .int .i64 0, .int .i64 0, .int .i64 0, .int .i64 0, .int .i64 0, .slice (some ⟨w3.heap.size + 1, 0, none⟩) 0 0, .string data] 31)
        have hbx := below_alloc hb5 (.cells #[.int .i64 4, .bool false, .int .i64 0, .int .i64 0, .int .i64 0, .int .i64 0, .int .i64 0, .int .i64 0, .int .i64 0, .int .i64 0, .int .i64 0, .slice (some ⟨w3.heap.size + 1, 0, none⟩) 0 0, .string data] 31)
        have hr6 := row_belowF hrow ((Below.refl _ ((w3.alloc (.cells #[.string A, .string B] 27)).alloc (.cells #[] 70))).alloc (Nat.le_refl _) (.cells #[.int .i64 4, .bool false, .int .i64 0, .int .i64 0, .int .i64 0, .int .i64 0, .int .i64 0, .int .i64 0, .int .i64 0, .int .i64 0, .int .i64 0, .slice (some ⟨w3.heap.size + 1, 0, none⟩) 0 0, .string data] 31))
        obtain ⟨Z, S, H, hc, hrc, hs, hrs, hh, hrh⟩ := hsix _ hbx _ 0 hr6
        clear hsix hwk hgr hpr hr6 hrow hb5 hOp hb1 hb2 hb3 hb
        generalize World.alloc _ (.cells #[.int .i64 4, .bool false, .int .i64 0, .int .i64 0, .int .i64 0, .int .i64 0, .int .i64 0, .int .i64 0, .int .i64 0, .int .i64 0, .int .i64 0, .slice (some ⟨w3.heap.size + 1, 0, none⟩) 0 0, .string data] 31) = W at *
        have hsm := hO.1
        have a0 := cell_byF (hO.2.1 0)
        have a1 := cell_byF (hO.2.1 1)
        have x0 := cell_byF (hx.2.1 0)
        have x1 := cell_byF (hx.2.1 1)
        have x2 := cell_byF (hx.2.1 2)
        have x3 := cell_byF (hx.2.1 3)
        have x4 := cell_byF (hx.2.1 4)
        have x5 := cell_byF (hx.2.1 5)
        have x6 := cell_byF (hx.2.1 6)
        have x7 := cell_byF (hx.2.1 7)
        have x8 := cell_byF (hx.2.1 8)
        have x9 := cell_byF (hx.2.1 9)
        have x10 := cell_byF (hx.2.1 10)
        have x11 := cell_byF (hx.2.1 11)
        have x12 := cell_byF (hx.2.1 12)
        clear hO hx
        go_wp2
        refine wp_region_belowF (by kernel_rfl) (by kernel_rfl) ?_
        (repeat (quiet_step (first
          | (go_at_call 11; with_reducible exact below_leftF (hc _))
          | (go_at_call 12; with_reducible exact below_leftF (hrc _))
          | (go_at_call 13; with_reducible exact below_leftF (hs _))
          | (go_at_call 14; with_reducible exact below_leftF (hrs _))
          | (go_at_call 15; with_reducible exact below_leftF (hh _))
          | (go_at_call 16; with_reducible exact below_leftF (hrh _)))))
        refine wpQuiet_nil ?_
        intro _ hw'
        obtain ⟨⟨wq, hbq⟩, hw''⟩ := hw'
        subst hw''
        go_wp2
        go_ret
        exact ⟨rfl, hbx.trans (hbq.mono hbx.size)⟩
      · go_enter Tryz.func3, Tryz.ntmps3
        go_upto_region 10 with (first
                | (go_at_call 8; (with_reducible refine (hwk _ (by (repeat' (first | (with_reducible exact Below.refl _ _) | (with_reducible refine below_alloc ?_ _) | (with_reducible refine Below.drew ?_) | (with_reducible refine below_drewN ?_ _) | (with_reducible refine Below.setCell ?_ ?_ _) | (with_reducible assumption) | (with_reducible refine below_of ?_ (by assumption)) | omega | (simp only [World.size_alloc, World.size_setCell, World.size_drew, size_drewN] at *; omega) | (simp; omega))))).mono ?_); rintro e w1 ⟨rfl, hb⟩; have hb1 : Below w.heap.size w w1 := below_of (by (repeat' (first | (with_reducible exact Below.refl _ _) | (with_reducible refine below_alloc ?_ _) | (with_reducible refine Below.drew ?_) | (with_reducible refine below_drewN ?_ _) | (with_reducible refine Below.setCell ?_ ?_ _) | (with_reducible assumption) | (with_reducible refine below_of ?_ (by assumption)) | omega | (simp only [World.size_alloc, World.size_setCell, World.size_drew, size_drewN] at *; omega) | (simp; omega)))) hb; have hz := hb.size; (try simp only [World.size_alloc, World.size_setCell, World.size_drew, size_drewN] at hz); apply own_step (B := w.heap.size) hb; (focus (repeat (first | (with_reducible assumption) | (with_reducible exact own_new _ _ _) | ((with_reducible apply own_new'); focus (first | omega | (simp; done) | (simp; omega))) | (with_reducible apply own_drewN) | (with_reducible apply own_drew) | (with_reducible apply own_alloc) | (with_reducible apply own_setT) | ((with_reducible apply own_set_otherH); focus (first | (simp; done) | (simp; omega)))))); intro hO0; have hk0 := hO0.2.1; have hl0 := hO0.1; have hf0 := hO0.2.2; (try simp only [List.setIfInBounds_toArray, List.set_cons_zero, List.set_cons_succ] at hO0 hk0))
                | (go_at_call 9; (with_reducible refine (hgr _ hb1).mono ?_); rintro e w2 ⟨rfl, hb⟩; have hb2 : Below w.heap.size w w2 := below_of hb1 hb; have hz := hb.size; (try simp only [World.size_alloc, World.size_setCell, World.size_drew, size_drewN] at hz); apply own_step (B := w.heap.size) hb; (focus (repeat (first | (with_reducible assumption) | (with_reducible exact own_new _ _ _) | ((with_reducible apply own_new'); focus (first | omega | (simp; done) | (simp; omega))) | (with_reducible apply own_drewN) | (with_reducible apply own_drew) | (with_reducible apply own_alloc) | (with_reducible apply own_setT) | ((with_reducible apply own_set_otherH); focus (first | (simp; done) | (simp; omega)))))); intro hO0; have hk0 := hO0.2.1; have hl0 := hO0.1; have hf0 := hO0.2.2; (try simp only [List.setIfInBounds_toArray, List.set_cons_zero, List.set_cons_succ] at hO0 hk0))
                | (go_at_call 10; (with_reducible refine (hpr _).mono ?_); rintro e w3 ⟨rfl, hb⟩; have hb3 : Below w.heap.size w w3 := below_of hb2 hb; clear hk0 hl0 hf0 hO0))
        have hOp : Own ((w3.alloc (.cells #[.string A, .string B] 27)).alloc (.cells #[] 70)) w3.heap.size #[.string A, .string B] := own_alloc (own_new _ _ _) _
        have hb5 : Below w.heap.size w ((w3.alloc (.cells #[.string A, .string B] 27)).alloc (.cells #[] 70)) := by (repeat' (first | (with_reducible exact Below.refl _ _) | (with_reducible refine below_alloc ?_ _) | (with_reducible refine Below.drew ?_) | (with_reducible refine below_drewN ?_ _) | (with_reducible refine Below.setCell ?_ ?_ _) | (with_reducible assumption) | (with_reducible refine below_of ?_ (by assumption)) | omega | (simp only [World.size_alloc, World.size_setCell, World.size_drew, size_drewN] at *; omega) | (simp; omega)))
        have hrow := row_zero ((w3.alloc (.cells #[.string A, .string B] 27)).alloc (.cells #[] 70)) (some ⟨w3.heap.size + 1, 0, none⟩) g
        have hx := own_new' (B := w3.heap.size + 1 + 1) ((w3.alloc (.cells #[.string A, .string B] 27)).alloc (.cells #[] 70)) #[.int .i64 4, .bool false, .int .i64 0, .int .i64 0, .int .i64 0, .int .i64 0, .int .i64 0, .int .i64 0, .int .i64 0, .int .i64 0, .int .i64 0, .slice (some ⟨w3.heap.size + 1, 0, none⟩) 0 0, .string data] 31 (by simp)
        have hO := own_alloc hOp (.cells #[.int .i64 4, .bool false, .int .i64 0, .int .i64 0, .int .i64 0, .int .i64 0, .int .i64 0, .int .i64 0, .int .i64 0, .int .i64 0, .int .i64 0, .slice (some ⟨w3.heap.size + 1, 0, none⟩) 0 0, .string data] 31)
        have hbx := below_alloc hb5 (.cells #[.int .i64 4, .bool false, .int .i64 0, .int .i64 0, .int .i64 0, .int .i64 0, .int .i64 0, .int .i64 0, .int .i64 0, .int .i64 0, .int .i64 0, .slice (some ⟨w3.heap.size + 1, 0, none⟩) 0 0, .string data] 31)
        have hr6 := row_belowF hrow ((Below.refl _ ((w3.alloc (.cells #[.string A, .string B] 27)).alloc (.cells #[] 70))).alloc (Nat.le_refl _) (.cells #[.int .i64 4, .bool false, .int .i64 0, .int .i64 0, .int .i64 0, .int .i64 0, .int .i64 0, .int .i64 0, .int .i64 0, .int .i64 0, .int .i64 0, .slice (some ⟨w3.heap.size + 1, 0, none⟩) 0 0, .string data] 31))
        obtain ⟨Z, S, H, hc, hrc, hs, hrs, hh, hrh⟩ := hsix _ hbx _ 1 hr6
        clear hsix hwk hgr hpr hr6 hrow hb5 hOp hb1 hb2 hb3 hb
        generalize World.alloc _ (.cells #[.int .i64 4, .bool false, .int .i64 0, .int .i64 0, .int .i64 0, .int .i64 0, .int .i64 0, .int .i64 0, .int .i64 0, .int .i64 0, .int .i64 0, .slice (some ⟨w3.heap.size + 1, 0, none⟩) 0 0, .string data] 31) = W at *
        have hsm := hO.1
        have a0 := cell_byF (hO.2.1 0)
        have a1 := cell_byF (hO.2.1 1)
        have x0 := cell_byF (hx.2.1 0)
        have x1 := cell_byF (hx.2.1 1)
        have x2 := cell_byF (hx.2.1 2)
        have x3 := cell_byF (hx.2.1 3)
        have x4 := cell_byF (hx.2.1 4)
        have x5 := cell_byF (hx.2.1 5)
        have x6 := cell_byF (hx.2.1 6)
        have x7 := cell_byF (hx.2.1 7)
        have x8 := cell_byF (hx.2.1 8)
        have x9 := cell_byF (hx.2.1 9)
        have x10 := cell_byF (hx.2.1 10)
        have x11 := cell_byF (hx.2.1 11)
        have x12 := cell_byF (hx.2.1 12)
        clear hO hx
        go_wp2
        refine wp_region_belowF (by kernel_rfl) (by kernel_rfl) ?_
        (repeat (quiet_step (first
          | (go_at_call 11; with_reducible exact below_leftF (hc _))
          | (go_at_call 12; with_reducible exact below_leftF (hrc _))
          | (go_at_call 13; with_reducible exact below_leftF (hs _))
          | (go_at_call 14; with_reducible exact below_leftF (hrs _))
          | (go_at_call 15; with_reducible exact below_leftF (hh _))
          | (go_at_call 16; with_reducible exact below_leftF (hrh _)))))
        refine wpQuiet_nil ?_
        intro _ hw'
        obtain ⟨⟨wq, hbq⟩, hw''⟩ := hw'
        subst hw''
        go_wp2
        go_ret
        exact ⟨rfl, hbx.trans (hbq.mono hbx.size)⟩
    · have hlen : (opCells (lsO n g)).length = n * 2 := by rw [opCells_length, lsO_len]
      cases sd
      · go_enter Tryz.func3, Tryz.ntmps3
        go_upto_region 10 with (first
                | (go_at_call 8; (with_reducible refine (hwk _ (by (repeat' (first | (with_reducible exact Below.refl _ _) | (with_reducible refine below_alloc ?_ _) | (with_reducible refine Below.drew ?_) | (with_reducible refine below_drewN ?_ _) | (with_reducible refine Below.setCell ?_ ?_ _) | (with_reducible assumption) | (with_reducible refine below_of ?_ (by assumption)) | omega | (simp only [World.size_alloc, World.size_setCell, World.size_drew, size_drewN] at *; omega) | (simp; omega))))).mono ?_); rintro e w1 ⟨rfl, hb⟩; have hb1 : Below w.heap.size w w1 := below_of (by (repeat' (first | (with_reducible exact Below.refl _ _) | (with_reducible refine below_alloc ?_ _) | (with_reducible refine Below.drew ?_) | (with_reducible refine below_drewN ?_ _) | (with_reducible refine Below.setCell ?_ ?_ _) | (with_reducible assumption) | (with_reducible refine below_of ?_ (by assumption)) | omega | (simp only [World.size_alloc, World.size_setCell, World.size_drew, size_drewN] at *; omega) | (simp; omega)))) hb; have hz := hb.size; (try simp only [World.size_alloc, World.size_setCell, World.size_drew, size_drewN] at hz); apply own_step (B := w.heap.size) hb; (focus (repeat (first | (with_reducible assumption) | (with_reducible exact own_new _ _ _) | ((with_reducible apply own_new'); focus (first | omega | (simp; done) | (simp; omega))) | (with_reducible apply own_drewN) | (with_reducible apply own_drew) | (with_reducible apply own_alloc) | (with_reducible apply own_setT) | ((with_reducible apply own_set_otherH); focus (first | (simp; done) | (simp; omega)))))); intro hO0; have hk0 := hO0.2.1; have hl0 := hO0.1; have hf0 := hO0.2.2; (try simp only [List.setIfInBounds_toArray, List.set_cons_zero, List.set_cons_succ] at hO0 hk0))
                | (go_at_call 9; (with_reducible refine (hgr _ hb1).mono ?_); rintro e w2 ⟨rfl, hb⟩; have hb2 : Below w.heap.size w w2 := below_of hb1 hb; have hz := hb.size; (try simp only [World.size_alloc, World.size_setCell, World.size_drew, size_drewN] at hz); apply own_step (B := w.heap.size) hb; (focus (repeat (first | (with_reducible assumption) | (with_reducible exact own_new _ _ _) | ((with_reducible apply own_new'); focus (first | omega | (simp; done) | (simp; omega))) | (with_reducible apply own_drewN) | (with_reducible apply own_drew) | (with_reducible apply own_alloc) | (with_reducible apply own_setT) | ((with_reducible apply own_set_otherH); focus (first | (simp; done) | (simp; omega)))))); intro hO0; have hk0 := hO0.2.1; have hl0 := hO0.1; have hf0 := hO0.2.2; (try simp only [List.setIfInBounds_toArray, List.set_cons_zero, List.set_cons_succ] at hO0 hk0))
                | (go_at_call 10; (with_reducible refine (hpr _).mono ?_); rintro e w3 ⟨rfl, hb⟩; have hb3 : Below w.heap.size w w3 := below_of hb2 hb; clear hk0 hl0 hf0 hO0)
                | (at_builtin
                   have hb4 : Below w.heap.size w ((w3.alloc (.cells #[.string A, .string B] 27)).alloc (.cells #[] 70)) := by (repeat' (first | (with_reducible exact Below.refl _ _) | (with_reducible refine below_alloc ?_ _) | (with_reducible refine Below.drew ?_) | (with_reducible refine below_drewN ?_ _) | (with_reducible refine Below.setCell ?_ ?_ _) | (with_reducible assumption) | (with_reducible refine below_of ?_ (by assumption)) | omega | (simp only [World.size_alloc, World.size_setCell, World.size_drew, size_drewN] at *; omega) | (simp; omega)))
                   have hO4 : Own ((w3.alloc (.cells #[.string A, .string B] 27)).alloc (.cells #[] 70)) w3.heap.size #[.string A, .string B] := own_alloc (own_new _ _ _) _
                   go_loud (refine wpList_append_own _ rfl _ _ 23 rfl w.heap.size 70 i0 (.agg #[.int .i64 0, .string ⟨#[]⟩]) 2 24 Tryz.underlying23 hi hz0 hz1 hz2 rfl (by decide) _ _ _ rfl (own_empty (by simp) (by have := hb3.size; simp; omega)) ad n cap (opCells (lsO n g)) rfl hlen (news_at hb4 hcell) (opCells_oneV _) (by unfold maxLen; omega) (by omega) (by have := hb3.size; simp; omega) ?_)
                   intro u5 w5 hown hgrow hnil
                   go_loud (have hb5 : Below w.heap.size w w5 := hb4.grown hgrow (by have := hb3.size; simp; omega) (fun j hj => by have hj : some (w3.heap.size + 1) = some j := hj; have := hb3.size; have := Option.some.inj hj; omega))
                   go_loud (have hOp : Own w5 w3.heap.size #[.string A, .string B] := own_grownF hO4 hgrow (fun e => by have e : some w3.heap.size = some (w3.heap.size + 1) := e; have := Option.some.inj e; omega))
                   have hown : w5.ownsRow w.heap.size 70 2 u5 n (opCells (lsO n g)) := by simpa using hown
                   have hrow := rows_lsO hown
                   obtain ⟨pu, cu, hu5⟩ := row_sliceF hown; subst hu5
                   clear hgrow hnil hO4 hb4))
        have hx := own_new w5 #[.int .i64 4, .bool false, .int .i64 0, .int .i64 0, .int .i64 0, .int .i64 0, .int .i64 0, .int .i64 0, .int .i64 0, .int .i64 0, .int .i64 0, .slice pu n cu, .string data] 31
        have hO := own_alloc hOp (.cells #[.int .i64 4, .bool false, .int .i64 0, .int .i64 0, .int .i64 0, .int .i64 0, .int .i64 0, .int .i64 0, .int .i64 0, .int .i64 0, .int .i64 0, .slice pu n cu, .string data] 31)
        have hbx := below_alloc hb5 (.cells #[.int .i64 4, .bool false, .int .i64 0, .int .i64 0, .int .i64 0, .int .i64 0, .int .i64 0, .int .i64 0, .int .i64 0, .int .i64 0, .int .i64 0, .slice pu n cu, .string data] 31)
        have hr6 := row_belowF hrow ((Below.refl _ w5).alloc (Nat.le_refl _) (.cells #[.int .i64 4, .bool false, .int .i64 0, .int .i64 0, .int .i64 0, .int .i64 0, .int .i64 0, .int .i64 0, .int .i64 0, .int .i64 0, .int .i64 0, .slice pu n cu, .string data] 31))
        obtain ⟨Z, S, H, hc, hrc, hs, hrs, hh, hrh⟩ := hsix _ hbx _ 0 hr6
        clear hsix hwk hgr hpr hr6 hrow hb5 hOp hb1 hb2 hb3 hb
        generalize World.alloc _ (.cells #[.int .i64 4, .bool false, .int .i64 0, .int .i64 0, .int .i64 0, .int .i64 0, .int .i64 0, .int .i64 0, .int .i64 0, .int .i64 0, .int .i64 0, .slice pu n cu, .string data] 31) = W at *
        have hsm := hO.1
        have a0 := cell_byF (hO.2.1 0)
        have a1 := cell_byF (hO.2.1 1)
        have x0 := cell_byF (hx.2.1 0)
        have x1 := cell_byF (hx.2.1 1)
        have x2 := cell_byF (hx.2.1 2)
        have x3 := cell_byF (hx.2.1 3)
        have x4 := cell_byF (hx.2.1 4)
        have x5 := cell_byF (hx.2.1 5)
        have x6 := cell_byF (hx.2.1 6)
        have x7 := cell_byF (hx.2.1 7)
        have x8 := cell_byF (hx.2.1 8)
        have x9 := cell_byF (hx.2.1 9)
        have x10 := cell_byF (hx.2.1 10)
        have x11 := cell_byF (hx.2.1 11)
        have x12 := cell_byF (hx.2.1 12)
        clear hO hx
        go_wp2
        refine wp_region_belowF (by kernel_rfl) (by kernel_rfl) ?_
        (repeat (quiet_step (first
          | (go_at_call 11; with_reducible exact below_leftF (hc _))
          | (go_at_call 12; with_reducible exact below_leftF (hrc _))
          | (go_at_call 13; with_reducible exact below_leftF (hs _))
          | (go_at_call 14; with_reducible exact below_leftF (hrs _))
          | (go_at_call 15; with_reducible exact below_leftF (hh _))
          | (go_at_call 16; with_reducible exact below_leftF (hrh _)))))
        refine wpQuiet_nil ?_
        intro _ hw'
        obtain ⟨⟨wq, hbq⟩, hw''⟩ := hw'
        subst hw''
        go_wp2
        go_ret
        exact ⟨rfl, hbx.trans (hbq.mono hbx.size)⟩
      · go_enter Tryz.func3, Tryz.ntmps3
        go_upto_region 10 with (first
                | (go_at_call 8; (with_reducible refine (hwk _ (by (repeat' (first | (with_reducible exact Below.refl _ _) | (with_reducible refine below_alloc ?_ _) | (with_reducible refine Below.drew ?_) | (with_reducible refine below_drewN ?_ _) | (with_reducible refine Below.setCell ?_ ?_ _) | (with_reducible assumption) | (with_reducible refine below_of ?_ (by assumption)) | omega | (simp only [World.size_alloc, World.size_setCell, World.size_drew, size_drewN] at *; omega) | (simp; omega))))).mono ?_); rintro e w1 ⟨rfl, hb⟩; have hb1 : Below w.heap.size w w1 := below_of (by (repeat' (first | (with_reducible exact Below.refl _ _) | (with_reducible refine below_alloc ?_ _) | (with_reducible refine Below.drew ?_) | (with_reducible refine below_drewN ?_ _) | (with_reducible refine Below.setCell ?_ ?_ _) | (with_reducible assumption) | (with_reducible refine below_of ?_ (by assumption)) | omega | (simp only [World.size_alloc, World.size_setCell, World.size_drew, size_drewN] at *; omega) | (simp; omega)))) hb; have hz := hb.size; (try simp only [World.size_alloc, World.size_setCell, World.size_drew, size_drewN] at hz); apply own_step (B := w.heap.size) hb; (focus (repeat (first | (with_reducible assumption) | (with_reducible exact own_new _ _ _) | ((with_reducible apply own_new'); focus (first | omega | (simp; done) | (simp; omega))) | (with_reducible apply own_drewN) | (with_reducible apply own_drew) | (with_reducible apply own_alloc) | (with_reducible apply own_setT) | ((with_reducible apply own_set_otherH); focus (first | (simp; done) | (simp; omega)))))); intro hO0; have hk0 := hO0.2.1; have hl0 := hO0.1; have hf0 := hO0.2.2; (try simp only [List.setIfInBounds_toArray, List.set_cons_zero, List.set_cons_succ] at hO0 hk0))
                | (go_at_call 9; (with_reducible refine (hgr _ hb1).mono ?_); rintro e w2 ⟨rfl, hb⟩; have hb2 : Below w.heap.size w w2 := below_of hb1 hb; have hz := hb.size; (try simp only [World.size_alloc, World.size_setCell, World.size_drew, size_drewN] at hz); apply own_step (B := w.heap.size) hb; (focus (repeat (first | (with_reducible assumption) | (with_reducible exact own_new _ _ _) | ((with_reducible apply own_new'); focus (first | omega | (simp; done) | (simp; omega))) | (with_reducible apply own_drewN) | (with_reducible apply own_drew) | (with_reducible apply own_alloc) | (with_reducible apply own_setT) | ((with_reducible apply own_set_otherH); focus (first | (simp; done) | (simp; omega)))))); intro hO0; have hk0 := hO0.2.1; have hl0 := hO0.1; have hf0 := hO0.2.2; (try simp only [List.setIfInBounds_toArray, List.set_cons_zero, List.set_cons_succ] at hO0 hk0))
                | (go_at_call 10; (with_reducible refine (hpr _).mono ?_); rintro e w3 ⟨rfl, hb⟩; have hb3 : Below w.heap.size w w3 := below_of hb2 hb; clear hk0 hl0 hf0 hO0)
                | (at_builtin
                   have hb4 : Below w.heap.size w ((w3.alloc (.cells #[.string A, .string B] 27)).alloc (.cells #[] 70)) := by (repeat' (first | (with_reducible exact Below.refl _ _) | (with_reducible refine below_alloc ?_ _) | (with_reducible refine Below.drew ?_) | (with_reducible refine below_drewN ?_ _) | (with_reducible refine Below.setCell ?_ ?_ _) | (with_reducible assumption) | (with_reducible refine below_of ?_ (by assumption)) | omega | (simp only [World.size_alloc, World.size_setCell, World.size_drew, size_drewN] at *; omega) | (simp; omega)))
                   have hO4 : Own ((w3.alloc (.cells #[.string A, .string B] 27)).alloc (.cells #[] 70)) w3.heap.size #[.string A, .string B] := own_alloc (own_new _ _ _) _
                   go_loud (refine wpList_append_own _ rfl _ _ 23 rfl w.heap.size 70 i0 (.agg #[.int .i64 0, .string ⟨#[]⟩]) 2 24 Tryz.underlying23 hi hz0 hz1 hz2 rfl (by decide) _ _ _ rfl (own_empty (by simp) (by have := hb3.size; simp; omega)) ad n cap (opCells (lsO n g)) rfl hlen (news_at hb4 hcell) (opCells_oneV _) (by unfold maxLen; omega) (by omega) (by have := hb3.size; simp; omega) ?_)
                   intro u5 w5 hown hgrow hnil
                   go_loud (have hb5 : Below w.heap.size w w5 := hb4.grown hgrow (by have := hb3.size; simp; omega) (fun j hj => by have hj : some (w3.heap.size + 1) = some j := hj; have := hb3.size; have := Option.some.inj hj; omega))
                   go_loud (have hOp : Own w5 w3.heap.size #[.string A, .string B] := own_grownF hO4 hgrow (fun e => by have e : some w3.heap.size = some (w3.heap.size + 1) := e; have := Option.some.inj e; omega))
                   have hown : w5.ownsRow w.heap.size 70 2 u5 n (opCells (lsO n g)) := by simpa using hown
                   have hrow := rows_lsO hown
                   obtain ⟨pu, cu, hu5⟩ := row_sliceF hown; subst hu5
                   clear hgrow hnil hO4 hb4))
        have hx := own_new w5 #[.int .i64 4, .bool false, .int .i64 0, .int .i64 0, .int .i64 0, .int .i64 0, .int .i64 0, .int .i64 0, .int .i64 0, .int .i64 0, .int .i64 0, .slice pu n cu, .string data] 31
        have hO := own_alloc hOp (.cells #[.int .i64 4, .bool false, .int .i64 0, .int .i64 0, .int .i64 0, .int .i64 0, .int .i64 0, .int .i64 0, .int .i64 0, .int .i64 0, .int .i64 0, .slice pu n cu, .string data] 31)
        have hbx := below_alloc hb5 (.cells #[.int .i64 4, .bool false, .int .i64 0, .int .i64 0, .int .i64 0, .int .i64 0, .int .i64 0, .int .i64 0, .int .i64 0, .int .i64 0, .int .i64 0, .slice pu n cu, .string data] 31)
        have hr6 := row_belowF hrow ((Below.refl _ w5).alloc (Nat.le_refl _) (.cells #[.int .i64 4, .bool false, .int .i64 0, .int .i64 0, .int .i64 0, .int .i64 0, .int .i64 0, .int .i64 0, .int .i64 0, .int .i64 0, .int .i64 0, .slice pu n cu, .string data] 31))
        obtain ⟨Z, S, H, hc, hrc, hs, hrs, hh, hrh⟩ := hsix _ hbx _ 1 hr6
        clear hsix hwk hgr hpr hr6 hrow hb5 hOp hb1 hb2 hb3 hb
        generalize World.alloc _ (.cells #[.int .i64 4, .bool false, .int .i64 0, .int .i64 0, .int .i64 0, .int .i64 0, .int .i64 0, .int .i64 0, .int .i64 0, .int .i64 0, .int .i64 0, .slice pu n cu, .string data] 31) = W at *
        have hsm := hO.1
        have a0 := cell_byF (hO.2.1 0)
        have a1 := cell_byF (hO.2.1 1)
        have x0 := cell_byF (hx.2.1 0)
        have x1 := cell_byF (hx.2.1 1)
        have x2 := cell_byF (hx.2.1 2)
        have x3 := cell_byF (hx.2.1 3)
        have x4 := cell_byF (hx.2.1 4)
        have x5 := cell_byF (hx.2.1 5)
        have x6 := cell_byF (hx.2.1 6)
        have x7 := cell_byF (hx.2.1 7)
        have x8 := cell_byF (hx.2.1 8)
        have x9 := cell_byF (hx.2.1 9)
        have x10 := cell_byF (hx.2.1 10)
        have x11 := cell_byF (hx.2.1 11)
        have x12 := cell_byF (hx.2.1 12)
        clear hO hx
        go_wp2
        refine wp_region_belowF (by kernel_rfl) (by kernel_rfl) ?_
        (repeat (quiet_step (first
          | (go_at_call 11; with_reducible exact below_leftF (hc _))
          | (go_at_call 12; with_reducible exact below_leftF (hrc _))
          | (go_at_call 13; with_reducible exact below_leftF (hs _))
          | (go_at_call 14; with_reducible exact below_leftF (hrs _))
          | (go_at_call 15; with_reducible exact below_leftF (hh _))
          | (go_at_call 16; with_reducible exact below_leftF (hrh _)))))
        refine wpQuiet_nil ?_
        intro _ hw'
        obtain ⟨⟨wq, hbq⟩, hw''⟩ := hw'
        subst hw''
        go_wp2
        go_ret
        exact ⟨rfl, hbx.trans (hbq.mono hbx.size)⟩
end Go.Proofs.YthacfgaacleaeaaGreatDoor
namespace Go.Proofs.YthacfgaacleaeaaGreatDoor
open Go.ChangeShapes Go.WideShapes Go.ChangeAt Go.RowKit Sym Go.ChangeMaps
theorem et_named : Tryz.prog.globalNamed "errors.errorType" = some 0 := by kernel_rfl
theorem rt_named : (Tryz.prog.cutTypes.find? (·.1 == "internal/reflectlite.rtype")).map (·.2) = some 202 := by kernel_rfl
theorem one_row : ((List.range 304).filter fun t => Tryz.prog.rowNamed t [101, 114, 114, 111, 114]) = [72] := by kernel_rfl
theorem types_size : Tryz.prog.types.size = 304 := by kernel_rfl
abbrev TabW (W : World) : Prop := ErrT W
theorem laid_tab {W : World} (h : laidMetH Tryz.prog Rows.forgeChecksRow.laid W) : TabW W := by
  have h' : laidMet Tryz.prog [] W ∧ handlesMet Tryz.prog Rows.forgeChecksRow.laid W := h
  obtain ⟨name, u, ty, e1, e2, e3, e4, e5⟩ := h'.2 _ (List.mem_singleton.2 rfl)
  have en : name = [101, 114, 114, 111, 114] := (Option.some.inj e1).symm
  subst en
  obtain rfl := Option.some.inj (rt_named.symm.trans e2)
  have hm : ty ∈ (List.range 304).filter fun t => Tryz.prog.rowNamed t [101, 114, 114, 111, 114] := List.mem_filter.2 ⟨List.mem_range.2 (by rw [← types_size]; exact e3), e4⟩
  rw [one_row] at hm
  obtain rfl := List.mem_singleton.1 hm
  have hh : typeHandle Tryz.prog 72 = .pointer (some ⟨2, 72, none⟩) := by kernel_rfl
  rw [hh] at e5
  have := World.var?_cell et_named e5 0
  show W.cell? ⟨0, 0, none⟩ = _
  simpa using this
theorem door_met (os : Os) (args : Array Value) : laidMetH Tryz.prog Rows.forgeChecksRow.laid ((World.doorLaid Tryz.prog 24 os).forCall (fun _ _ => 0) ⟨#[], args, []⟩).memory :=
  laidMetH_of_parts (laidMet_nil _ _) (by kernel_rfl)
set_option maxRecDepth 100000 in
theorem open_str2 {H : Type} {enc : TypeId × Value → H} {W : World} {base b0 : Nat} {r : Reach} {v : Value} {d : DataW H} {p : List MemPlace} {sp : Nat → Bool} (hv : Value.okWide Tryz.prog W r b0 22 v) (h : DataW.Trod enc Tryz.prog W base sp true 22 v d p) :
    ∃ a b : ByteArray, v = .agg #[.string a, .string b] ∧ a.size ≤ maxLen ∧ b.size ≤ maxLen := by
  simp only [Value.okWide, Tryz.underlying22] at hv
  obtain ⟨cs, rfl, hsz, -⟩ := hv
  rw [show Tryz.prog.cellsOf 22 = 2 from by kernel_rfl] at hsz
  obtain ⟨l⟩ := cs
  obtain ⟨fuel, hf⟩ := h
  have hl : l.length = 2 := by simpa using hsz
  match l, hl with
  | [x, y], _ =>
    have hf : DataW.trod enc Tryz.prog W base sp true fuel 22 [x, y] = some (d, p) := hf
    obtain ⟨xs, m, -, -, -, hlen, hg⟩ := DataW.trod_array Tryz.underlying22 hf
    have ci : Tryz.prog.cellsOf 9 = 1 := by kernel_rfl
    have one : ∀ i, i < 2 → ∀ c, (([x, y] : List Value).drop i).take 1 = [c] → ∃ s : ByteArray, c = .string s ∧ s.size ≤ maxLen := by
      intro i hi c hc
      obtain ⟨u, hu⟩ : ∃ u, xs[i]? = some u := ⟨_, List.getElem?_eq_getElem (by rw [hlen]; exact hi)⟩
      rw [← hg i hi, ci, Nat.mul_one, hc] at hu
      obtain ⟨s, e, -, hz⟩ := DataW.trod_string Tryz.underlying9 hu
      simp at e
      exact ⟨s, e, hz⟩
    obtain ⟨a, rfl, ha⟩ := one 0 (by decide) x rfl
    obtain ⟨b, rfl, hb⟩ := one 1 (by decide) y rfl
    exact ⟨a, b, rfl, ha, hb⟩
set_option maxRecDepth 100000 in
theorem open_optsI {H : Type} {enc : TypeId × Value → H} {W : World} {base b0 : Nat} {r : Reach} {v : Value} {d : DataW H} {p : List MemPlace} {sp : Nat → Bool} (hv : Value.okWide Tryz.prog W r b0 23 v) (h : DataW.Trod enc Tryz.prog W base sp true 23 v d p) :
    ∃ (n : Nat) (g : Nat → Op), n ≤ maxLen ∧ IsRows W 2 v n fun i j => (g i).c j := by
  obtain ⟨len, f, h1, h2, h3⟩ := open_rows_of 2 (by kernel_rfl) (by omega) Tryz.underlying23 (okWide_slice Tryz.underlying23 hv) h
  have hs : ∀ i, i < len → ∀ j, j < 2 → f i j = (opF f i).c j := by
    intro i hi
    obtain ⟨fuel, x, hx⟩ := h3 i hi
    obtain ⟨xs, n, _, _, _, hlen, hg⟩ := DataW.trod_struct Tryz.underlying70 hx
    have ci : Tryz.prog.cellsOf 3 = 1 := by kernel_rfl
    have cst : Tryz.prog.cellsOf 9 = 1 := by kernel_rfl
    obtain ⟨u0, hu0⟩ : ∃ u, xs[0]? = some u := ⟨_, List.getElem?_eq_getElem (by rw [hlen]; decide)⟩
    obtain ⟨u1, hu1⟩ : ∃ u, xs[1]? = some u := ⟨_, List.getElem?_eq_getElem (by rw [hlen]; decide)⟩
    rw [← hg 0 _ rfl] at hu0
    rw [← hg 1 _ rfl] at hu1
    simp [List.range_succ, ci, cst] at hu0 hu1
    obtain ⟨z, e0, _, _⟩ := DataW.trod_int Tryz.underlying3 hu0
    obtain ⟨s, e1, _, hz⟩ := DataW.trod_string Tryz.underlying9 hu1
    simp at e0 e1
    intro j hj
    match j, hj with
    | 0, _ => show f i 0 = .int .i64 (intV (f i 0)); rw [e0]; rfl
    | 1, _ => show f i 1 = .string (strV (f i 1)); rw [e1]; rfl
  refine ⟨len, opF f, h2, ?_⟩
  rcases h1 with q | ⟨a, cap, q1, q2, q3, q4⟩
  · exact .inl q
  · refine .inr ⟨a, cap, q1, q2, q3, fun i hi => ?_⟩
    obtain ⟨s1, s2, s3⟩ := q4 i hi
    exact ⟨s1, s2, fun j hj => by have := s3 j hj; rw [hs i hi j hj] at this; exact this⟩
set_option maxRecDepth 100000 in
theorem forgeChecks_walk {H : Type} {enc : TypeId × Value → H} {W : World} {base : Nat} {sp : Nat → Bool} {v0 v1 v2 v3 : Value} {d0 d1 d2 d3 : DataW H} {p0 p1 p2 p3 : List MemPlace}
    (a0 : Value.okWide Tryz.prog W .any base 22 v0) (h0 : DataW.Trod enc Tryz.prog W 0 sp true 22 v0 d0 p0)
    (a1 : Value.okWide Tryz.prog W .any base 4 v1) (h1 : DataW.Trod enc Tryz.prog W 0 sp true 4 v1 d1 p1)
    (a2 : Value.okWide Tryz.prog W .any base 23 v2) (h2 : DataW.Trod enc Tryz.prog W 0 sp true 23 v2 d2 p2)
    (a3 : Value.okWide Tryz.prog W .any base 9 v3) (h3 : DataW.Trod enc Tryz.prog W 0 sp true 9 v3 d3 p3) (ht : TabW W) :
    Calls Tryz.prog 3 #[v0, v1, v2, v3] W fun e W' => e = .returned (.bool true) ∧ Below W.heap.size W W' := by
  obtain ⟨a, b, rfl, ha, hb⟩ := open_str2 a0 h0
  obtain ⟨s, rfl, -, -⟩ := open_bool Tryz.underlying4 a1 h1
  obtain ⟨n, g, hn, hr⟩ := open_optsI a2 h2
  obtain ⟨x, rfl, -, -, hx⟩ := open_string Tryz.underlying9 a3 h3
  exact checks_any a b s x ht hn hr ⟨ha, hb, hx⟩
end Go.Proofs.YthacfgaacleaeaaGreatDoor

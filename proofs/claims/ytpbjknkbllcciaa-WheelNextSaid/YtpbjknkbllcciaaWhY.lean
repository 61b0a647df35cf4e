/- Timers: in pieces, as at once: the law. No conditions. -/
import Derived.Test.YtpbjknkbllcciaaWhX
namespace Go.Proofs.Ytpbjknkbllcciaa
set_option linter.unusedVariables false
set_option linter.unusedSimpArgs false
open Go.RowKit Sym Go.Maps Go.Sort Go.Lib Go.ChangeShapes Go.WideShapes Go.ChangeMaps

set_option maxRecDepth 100000 in
theorem wp_any (now0 : Int) (n m : Nat) (g : Nat → Tm) (p : Nat → Int) (hg : ∀ i, (g i).name.size ≤ maxLen) (hp : ∀ i, 0 ≤ p i ∧ p i ≤ 65535) (u v : Value) (w : World) (hu : ∀ B, BlkSat B w u (.row n 3 fun i j => (g i).c j)) (hv : ∀ B, BlkSat B w v (.row m 1 fun i _ => .int .u16 (p i))) :
    Calls Try.prog 3 #[.int .i64 now0, u, v] w fun e w' => e = .returned (.bool true) ∧ Below w.heap.size w w' := by
  by_cases hnm : n ≤ 60 ∧ m ≤ 60
  · obtain ⟨hn60, hm60⟩ := hnm
    have hn := ini_bd now0
    obtain ⟨hD, h64, hF⟩ := dAt_ok (g := g) hn hg n
    have hz := fut0 hD hF
    have e0 : stW Try.prog n m g p (iniT now0) (dAt (iniT now0) g n) 0 = stQ Try.prog n m g p (iniT now0) (iniT now0) (dAt (iniT now0) g n) (dAt (iniT now0) g n) 0 [] 0 (0 : Nat) := by
      unfold stW
      rw [show sumP p 0 = 0 from rfl, nowT_zero hn]
      unfold atD
      rw [hz]; rfl
    refine calls_runO (v := .bool true) CWp_ok follows Try.func3 (by kernel_rfl) (lexAllF_ok (by kernel_rfl)) (two_loops (b1 := loopAt Try.f3 0) (id1 := 0) (b2 := loopAt Try.f3 1) (id2 := 2) (by kernel_rfl) (fun st t hh => ?_) fun st t hh => ?_)
      (wp_run whV n m g p now0 n (dAt (iniT now0) g n) m (nowT (iniT now0) (sumP p m)) (atD (dAt (iniT now0) g n) (nowT (iniT now0) (sumP p m))) (dueN (dAt (iniT now0) g n) (nowT (iniT now0) (sumP p m))) (((ordL (dAt (iniT now0) g n)).take (dueN (dAt (iniT now0) g n) (nowT (iniT now0) (sumP p m)))).map encStr) (sumP p m)) ?_ (mem_rows2 hu hv) rfl
    · rw [addL_same hh]
      exact loop_cnt CWp_ok follows (lexAllF_ok (by kernel_rfl)) (noloops (by kernel_rfl)) (fun i => i ≤ n) (fun i => stP Try.prog n m g p (iniT now0) (dAt (iniT now0) g i) (dAt (iniT now0) g i) (i : Nat)) (fun i => n - i) 6 [1, 2, 7, 8, 9] [] [] n [] (wp_step hn hg hn60) (Nat.zero_le _)
    · unfold LWp at hh
      have hh := Option.some.inj hh
      rw [← hh]
      have := loop_cnt (st := st) CWp_ok follows (lexAllF_ok (by kernel_rfl)) (noloops (by kernel_rfl)) (fun i => i ≤ m) (fun i => stW Try.prog n m g p (iniT now0) (dAt (iniT now0) g n) i) (fun i => m - i) 6 [2, 7, 8, 11, 12] [(10, 9, 1)] [] m [] (wp_step2 hn hD h64 hp hm60) (Nat.zero_le _)
      rw [e0] at this
      exact this
    · generalize hnow : iniT now0 = now at *
      generalize dAt now g n = D at *
      have hs := sumP_bd hp m
      generalize hal : sumP p m = al at *
      have hb0 := (nowT_bd hn hs.1).1
      have hlen := (dueN_spec D (nowT now al)).1
      have hk : okW now D := okW_of hD hn h64
      have hol := hD.olen
      simp only [vini, vdel, vdue, vrow, vnow, vnxI, vnxB, vok, hnow]
      have hA := strs_all ((ordL D).take (dueN D (nowT now al))) (by rw [List.length_take]; unfold maxLen; omega)
      rw [List.length_take, Nat.min_eq_left hlen] at hA
      refine t_ite (fun h => by cases h) fun _ => t_ite (fun _ => t_leaf rfl) fun _ => t_ite (fun _ => t_leaf rfl) fun _ => t_need trivial (t_need ?_ (t_ite (fun h => ?_) fun _ => t_need trivial (t_need ?_ (t_ite (fun h => ?_) fun _ => t_need ⟨trivial, hk⟩ (t_need hA (t_need hA ?_))))))
      · trivial
      · have := of_decide_eq_true h; omega
      · trivial
      · have := of_decide_eq_true h; omega
      · rw [sameS_refl _ _ _ fun i _ => rfl]
        refine t_ite (fun _ => t_ite (fun _ => t_need trivial (t_need trivial (t_leaf ?_))) fun h => by simp at h) fun h => by cases h
        show Value.bool (decide ((mSize (atD D (nowT now al)) : Int) = (mSize (atD D (nowT now al)) : Int))) = _
        rw [decide_eq_true rfl]
  · refine calls_runO (v := .bool true) CWp_ok follows Try.func3 (by kernel_rfl) (lexAllF_ok (by kernel_rfl)) (two_loops (b1 := loopAt Try.f3 0) (id1 := 0) (b2 := loopAt Try.f3 1) (id2 := 2) (by kernel_rfl) (fun st t hh => by cases hh) fun st t hh => by cases hh) (wp_run0 whV n m g p now0) ?_ (mem_rows2 hu hv) rfl
    refine t_ite (fun h => by cases h) fun _ => t_ite (fun _ => t_leaf rfl) fun h => t_ite (fun _ => t_leaf rfl) fun h' => ?_
    have := of_decide_eq_false h
    have := of_decide_eq_false h'
    omega
def tmF (f : Nat → Nat → Value) (i : Nat) : Tm := ⟨intV (f i 0), strV (f i 1), intV (f i 2)⟩
set_option maxRecDepth 100000 in
theorem open_tms {H : Type} {enc : TypeId × Value → H} {W : World} {base b0 : Nat} {r : Reach} {v : Value} {d : DataW H} {p : List MemPlace} {sp : Nat → Bool} (hv : Value.okWide Try.prog W r b0 22 v) (h : DataW.Trod enc Try.prog W base sp true 22 v d p) :
    ∃ (n : Nat) (g : Nat → Tm), n ≤ maxLen ∧ (∀ i, (g i).name.size ≤ maxLen) ∧ ∀ B, BlkSat B W v (.row n 3 fun i j => (g i).c j) := by
  obtain ⟨len, f, h1, h2, h3⟩ := open_rows 3 (by kernel_rfl) (by omega) Try.underlying22 hv h
  have hs : ∀ i, i < len → (∀ j, j < 3 → f i j = (tmF f i).c j) ∧ (tmF f i).name.size ≤ maxLen := by
    intro i hi
    obtain ⟨fuel, x, hx⟩ := h3 i hi
    obtain ⟨xs, n, _, _, _, hlen, hg⟩ := DataW.trod_struct Try.underlying29 hx
    have ci : Try.prog.cellsOf 3 = 1 := by kernel_rfl
    have cst : Try.prog.cellsOf 9 = 1 := by kernel_rfl
    have int_at : ∀ (k : Nat) (y : DataW H × List MemPlace), DataW.trod enc Try.prog W base sp true n 3 [f i k] = some y → f i k = .int .i64 (intV (f i k)) := by
      intro k y hy
      obtain ⟨z, e, _, _⟩ := DataW.trod_int Try.underlying3 hy
      simp at e
      rw [e]; rfl
    obtain ⟨u0, hu0⟩ : ∃ u, xs[0]? = some u := ⟨_, List.getElem?_eq_getElem (by rw [hlen]; decide)⟩
    obtain ⟨u1, hu1⟩ : ∃ u, xs[1]? = some u := ⟨_, List.getElem?_eq_getElem (by rw [hlen]; decide)⟩
    obtain ⟨u2, hu2⟩ : ∃ u, xs[2]? = some u := ⟨_, List.getElem?_eq_getElem (by rw [hlen]; decide)⟩
    rw [← hg 0 _ rfl] at hu0
    rw [← hg 1 _ rfl] at hu1
    rw [← hg 2 _ rfl] at hu2
    simp [List.range_succ, ci, cst] at hu0 hu1 hu2
    have e0 := int_at 0 _ hu0
    have e2 := int_at 2 _ hu2
    obtain ⟨s, e1, _, hz⟩ := DataW.trod_string Try.underlying9 hu1
    simp at e1
    refine ⟨fun j hj => ?_, ?_⟩
    · match j, hj with
      | 0, _ => exact e0
      | 1, _ => show f i 1 = .string (strV (f i 1)); rw [e1]; rfl
      | 2, _ => exact e2
    · show (strV (f i 1)).size ≤ maxLen
      rw [e1]; exact hz
  refine ⟨len, fun i => if i < len then tmF f i else ⟨0, ⟨#[]⟩, 0⟩, h2, fun i => ?_, fun B => row_congr (row_of h1 B) fun i j hi hj => ?_⟩
  · by_cases hi : i < len
    · simp only [if_pos hi]; exact (hs i hi).2
    · simp only [if_neg hi]; exact Nat.zero_le _
  · simp only [if_pos hi]; exact (hs i hi).1 j hj
theorem open_u16s {H : Type} {enc : TypeId × Value → H} {W : World} {base b0 : Nat} {r : Reach} {v : Value} {d : DataW H} {p : List MemPlace} {sp : Nat → Bool} (hv : Value.okWide Try.prog W r b0 23 v) (h : DataW.Trod enc Try.prog W base sp true 23 v d p) :
    ∃ (n : Nat) (g : Nat → Int), n ≤ maxLen ∧ (∀ i, 0 ≤ g i ∧ g i ≤ 65535) ∧ ∀ B, BlkSat B W v (.row n 1 fun i _ => .int .u16 (g i)) := by
  obtain ⟨len, f, h1, h2, h3⟩ := open_rows 1 (by kernel_rfl) (by omega) Try.underlying23 hv h
  have hs : ∀ i, i < len → f i 0 = .int .u16 (intV (f i 0)) ∧ 0 ≤ intV (f i 0) ∧ intV (f i 0) ≤ 65535 := by
    intro i hi
    obtain ⟨fuel, x, hx⟩ := h3 i hi
    obtain ⟨z, e, _, hw⟩ := DataW.trod_int Try.underlying35 hx
    have e : f i 0 = .int .u16 z := by simpa [List.range_succ] using e
    rw [e]
    have hw : (decide ((0 : Int) ≤ z) && decide (z ≤ 65535)) = true := hw
    rw [Bool.and_eq_true] at hw
    exact ⟨rfl, of_decide_eq_true hw.1, of_decide_eq_true hw.2⟩
  refine ⟨len, fun i => if i < len then intV (f i 0) else 0, h2, fun i => ?_, fun B => row_congr (row_of h1 B) fun i j hi hj => ?_⟩
  · by_cases hi : i < len
    · simp only [if_pos hi]; exact (hs i hi).2
    · simp only [if_neg hi]; omega
  · obtain rfl : j = 0 := by omega
    simp only [if_pos hi]; exact (hs i hi).1
theorem wheelPieces_walk {H : Type} {enc : TypeId × Value → H} {base : Nat} {v0 v1 v2 : Value} {d0 d1 d2 : DataW H} {p0 p1 p2 : List MemPlace} {W : World} (hv0 : Value.okWide Try.prog W .any base 3 v0)
    (h0 : DataW.Trod enc Try.prog W 0 (fun _ => true) true 3 v0 d0 p0) (hv1 : Value.okWide Try.prog W .any base 22 v1) (h1 : DataW.Trod enc Try.prog W 0 (fun _ => true) true 22 v1 d1 p1)
    (hv2 : Value.okWide Try.prog W .any base 23 v2) (h2 : DataW.Trod enc Try.prog W 0 (fun _ => true) true 23 v2 d2 p2) :
    Calls Try.prog 3 #[v0, v1, v2] W fun e w' => e = .returned (.bool true) ∧ Below W.heap.size W w' := by
  obtain ⟨now, rfl, rfl, rfl, -⟩ := open_int Try.underlying3 hv0 h0
  obtain ⟨n, g, -, hg, hu⟩ := open_tms hv1 h1
  obtain ⟨m, p, -, hp, hv⟩ := open_u16s hv2 h2
  exact wp_any now n m g p hg hp v1 v2 W hu hv
end Go.Proofs.Ytpbjknkbllcciaa

/- What is written is read as it was, plainly. No conditions. -/
import Derived.Test.YtdhdkfnmbdejbaaDoorSgP
namespace Go.Proofs.YtdhdkfnmbdejbaaDoor
set_option linter.unusedVariables false
set_option linter.unusedSimpArgs false
open Go.RowKit

/-- a word: of something, and no blank in it -/
def Clean (l : List UInt8) : Prop := l ≠ [] ∧ ∀ c ∈ l, c ≠ 32
theorem fold_run (m : List UInt8) (h : ∀ c ∈ m, c ≠ 32) (q : List (List UInt8)) (w : List UInt8) : m.foldl fstep (q, w) = (q, w ++ m) := by
  induction m generalizing w with
  | nil => simp
  | cons c m ih =>
    rw [List.foldl_cons]
    have e : fstep (q, w) c = (q, w ++ [c]) := by unfold fstep; rw [if_neg (h c (List.mem_cons_self ..))]
    rw [e, ih (fun d hd => h d (List.mem_cons_of_mem _ hd))]
    simp
theorem fold_join : ∀ (r : List (List UInt8)) (q : List (List UInt8)) (w : List UInt8), w ≠ [] → (∀ y ∈ r, Clean y) → ∃ s : List (List UInt8) × List UInt8, ((r.map fun y => 32 :: y).flatten).foldl fstep (q, w) = s ∧ s.2 ≠ [] ∧ s.1 ++ [s.2] = q ++ [w] ++ r
  | [], q, w, hw, _ => ⟨(q, w), rfl, hw, by simp⟩
  | y :: r, q, w, hw, hr => by
    have hy := hr y (List.mem_cons_self ..)
    obtain ⟨s, h1, h2, h3⟩ := fold_join r (q ++ [w]) y hy.1 (fun z hz => hr z (List.mem_cons_of_mem _ hz))
    refine ⟨s, ?_, h2, by rw [h3]; simp⟩
    rw [List.map_cons, List.flatten_cons, List.foldl_append, List.foldl_cons]
    have e : fstep (q, w) 32 = (q ++ [w], []) := by unfold fstep; rw [if_pos rfl, if_neg hw]
    rw [e, fold_run y hy.2, List.nil_append, h1]
theorem fields_join (x : List UInt8) (r : List (List UInt8)) (hx : Clean x) (hr : ∀ y ∈ r, Clean y) : fieldsL (joinL (x :: r)) = x :: r := by
  obtain ⟨s, h1, h2, h3⟩ := fold_join r [] x hx.1 hr
  have e : fstate (joinL (x :: r)) = s := by
    unfold fstate
    rw [joinL_cons, List.foldl_append, fold_run x hx.2, List.nil_append, h1]
  unfold fieldsL
  rw [e, if_neg h2, h3]
  simp
theorem dec_lo : ∀ n : Fin 10, isDig (UInt8.ofNat (48 + n.1)) = true ∧ (UInt8.ofNat (48 + n.1)).toNat - 48 = n.1 ∧ (0 < n.1 → UInt8.ofNat (48 + n.1) ≠ 48) := by decide
theorem dec_facts (n : Nat) : (Lib.decDigits n).all isDig = true ∧ valL (Lib.decDigits n) = n ∧ Lib.decDigits n ≠ [] ∧ (0 < n → (Lib.decDigits n).head? ≠ some 48) ∧ ∀ d, n < 10 ^ (d + 1) → (Lib.decDigits n).length ≤ d + 1 := by
  induction n using Nat.strongRecOn with
  | _ n ih =>
    rw [Lib.decDigits]
    by_cases h : n < 10
    · rw [dif_pos h]
      obtain ⟨a, b, c⟩ := dec_lo ⟨n, h⟩
      dsimp only at a b c
      refine ⟨by simpa using a, ?_, by simp, fun h0 => by simpa using c h0, fun d _ => by simp⟩
      show 10 * 0 + _ = n
      rw [b]
      omega
    · rw [dif_neg h]
      obtain ⟨i1, i2, i3, i4, i5⟩ := ih (n / 10) (by omega)
      obtain ⟨a, b, c⟩ := dec_lo ⟨n % 10, Nat.mod_lt _ (by decide)⟩
      dsimp only at a b c
      refine ⟨?_, ?_, by simp, fun _ => ?_, fun d hd => ?_⟩
      · rw [List.all_append, i1]; simpa using a
      · rw [valL_snoc, i2, b]; omega
      · have h4 := i4 (by omega)
        cases hq : Lib.decDigits (n / 10) with
        | nil => exact absurd hq i3
        | cons a l => rw [hq] at h4; exact h4
      · rw [List.length_append]
        cases d with
        | zero => simp at hd; omega
        | succ d =>
          have := i5 d (by rw [Nat.pow_succ] at hd; omega)
          simp only [List.length_cons, List.length_nil]
          omega
theorem num_dec (n : Nat) (h : n < 10 ^ 15) : numL (Lib.decDigits n) = ((n : Int), true) := by
  obtain ⟨i1, i2, i3, i4, i5⟩ := dec_facts n
  have hl := i5 14 h
  unfold numL
  rw [if_neg, i2]
  rintro (e | e | ⟨e, e2⟩ | e)
  · exact i3 e
  · omega
  · by_cases h0 : 0 < n
    · exact i4 h0 e
    · obtain rfl : n = 0 := by omega
      have := i5 0 (by decide)
      omega
  · rw [i1] at e; cases e
theorem ofL_nat (n : Nat) (h : n < 10 ^ 18) : ofL (n : Int) = Lib.decDigits n := by
  rw [← ofL_itoa (n : Int) (by omega) (by omega)]
  unfold Lib.itoa
  rw [if_neg (by omega)]
  rfl
theorem unhex_hex : ∀ l : List UInt8, unhex (hexD l) = some l
  | [] => rfl
  | b :: l => by
    have hb := b.toNat_lt
    show (halfL (digL (b.toNat / 16))).bind (fun x => (halfL (digL (b.toNat % 16))).bind fun y => (unhex (hexD l)).map fun t => UInt8.ofNat (16 * x + y) :: t) = _
    rw [digL_half _ (by omega), digL_half _ (by omega), unhex_hex l]
    show some (UInt8.ofNat (16 * (b.toNat / 16) + b.toNat % 16) :: l) = _
    rw [show 16 * (b.toNat / 16) + b.toNat % 16 = b.toNat by omega]
    simp
theorem bytes_hex (l : List UInt8) : bytesL (hexL l) = some l := by
  unfold hexL
  by_cases h : l = []
  · subst h; rfl
  · rw [if_neg h]
    unfold bytesL
    have hl := hexD_len l
    have hp : 0 < l.length := List.length_pos_iff.2 h
    rw [if_neg (fun e => by rw [e] at hl; simp at hl; omega), if_neg (fun e => by rw [e] at hl; simp at hl; omega)]
    exact unhex_hex l
/-- an act of numbers that can be written -/
structure ActN (p : ActP) : Prop where
  k : 1 ≤ p.k ∧ p.k ≤ 15
  s : p.s = 0 ∨ p.s = 1
  x : ∃ n : Nat, n < 10 ^ 10 ∧ p.x = (n : Int)
  y : ∃ n : Nat, n < 10 ^ 10 ∧ p.y = (n : Int)
  z : ∃ n : Nat, n < 10 ^ 10 ∧ p.z = (n : Int)
  d : p.d.size ≤ 700
def setF (x : ActP) (a : ActP) (c : UInt8) : ActP := if c = 115 then { a with s := x.s } else if c = 100 then { a with d := x.d } else if c = 120 then { a with x := x.x } else if c = 121 then { a with y := x.y } else { a with z := x.z }
theorem num_of {n : Int} (h : ∃ m : Nat, m < 10 ^ 10 ∧ n = (m : Int)) : numL (ofL n) = (n, true) ∧ Clean (ofL n) ∧ (ofL n).length ≤ 10 := by
  obtain ⟨m, hm, rfl⟩ := h
  rw [ofL_nat m (by omega)]
  obtain ⟨i1, i2, i3, i4, i5⟩ := dec_facts m
  refine ⟨num_dec m (by omega), ⟨i3, fun c hc e => ?_⟩, i5 9 hm⟩
  rw [List.all_eq_true] at i1
  have := i1 c hc
  rw [e] at this
  cases this
theorem word_all {x : ActP} (hx : ActN x) (c : UInt8) (a : ActP) : stepA c (tx (wordOf x c)) a = some (setF x a c) ∧ Clean (wordOf x c) ∧ (wordOf x c).length ≤ (if c = 100 then 1401 else 10) := by
  unfold stepA wordOf setF
  by_cases h1 : c = 115
  · subst h1
    rcases hx.s with hs | hs
    · simp only [if_pos, hs]
      refine ⟨rfl, ⟨by decide, by decide⟩, by decide⟩
    · simp only [if_pos, hs]
      refine ⟨rfl, ⟨by decide, by decide⟩, by decide⟩
  · by_cases h2 : c = 100
    · subst h2
      rw [if_neg (by decide), if_pos rfl, if_neg (by decide), if_pos rfl, if_neg (by decide), if_pos rfl, if_pos rfl]
      rw [tx_data, bytes_hex]
      refine ⟨by rw [Option.map_some, tx_list], ?_, ?_⟩
      · unfold hexL
        by_cases h : x.d.data.toList = []
        · rw [if_pos h]; exact ⟨by decide, by decide⟩
        · rw [if_neg h]
          refine ⟨fun e => ?_, fun b hb e => ?_⟩
          · have hl := hexD_len x.d.data.toList
            have hl2 : 0 = 2 * x.d.data.toList.length := by rw [← hl, e]; rfl
            have hp : 0 < x.d.data.toList.length := List.length_pos_iff.2 h
            omega
          · unfold hexD at hb
            rw [List.mem_flatMap] at hb
            obtain ⟨v, -, hv⟩ := hb
            have hv2 := v.toNat_lt
            have key : ∀ k : Fin 16, digL k.1 ≠ 32 := by decide
            simp only [List.mem_cons, List.not_mem_nil, or_false] at hv
            rcases hv with hv | hv
            · exact key ⟨v.toNat / 16, by omega⟩ (hv.symm.trans e)
            · exact key ⟨v.toNat % 16, by omega⟩ (hv.symm.trans e)
      · have hd := hx.d
        unfold hexL
        split
        · decide
        · rw [hexD_len, size_list]; omega
    · rw [if_neg h1, if_neg h2, if_neg h1, if_neg h2, if_neg h1, if_neg h2, if_neg h2]
      rw [tx_data]
      by_cases h3 : c = 120
      · obtain ⟨n1, n2, n3⟩ := num_of hx.x
        simp only [if_pos h3, n1]
        exact ⟨rfl, n2, n3⟩
      · by_cases h4 : c = 121
        · obtain ⟨n1, n2, n3⟩ := num_of hx.y
          simp only [if_neg h3, if_pos h4, n1]
          exact ⟨rfl, n2, n3⟩
        · obtain ⟨n1, n2, n3⟩ := num_of hx.z
          simp only [if_neg h3, if_neg h4, n1]
          exact ⟨rfl, n2, n3⟩
theorem readAll_words {x : ActP} (hx : ActN x) : ∀ (cs : List UInt8) (a : ActP), readAll cs ((cs.map (wordOf x)).map tx) a = some (cs.foldl (setF x) a)
  | [], a => rfl
  | c :: cs, a => by
    show (stepA c (tx (wordOf x c)) a).bind (readAll cs ((cs.map (wordOf x)).map tx)) = _
    rw [(word_all hx c a).1, Option.bind_some, readAll_words hx cs]
    rfl
def costL (cs : List UInt8) : Nat := (cs.map fun c => (if c = 100 then 1401 else 10) + 1).sum
theorem join_cost {x : ActP} (hx : ActN x) : ∀ cs : List UInt8, (((cs.map (wordOf x)).map fun y => 32 :: y).flatten).length ≤ costL cs
  | [] => Nat.le_refl _
  | c :: cs => by
    have h1 := (word_all hx c ActP.zero).2.2
    have h2 := join_cost hx cs
    simp only [List.map_cons, List.flatten_cons, List.length_append, List.length_cons, costL, List.sum_cons] at h2 ⊢
    omega
theorem cmd_facts : ∀ k : Fin 15, (cmds.getD k.1 [] ≠ [] ∧ (∀ c ∈ cmds.getD k.1 [], c ≠ 32)) ∧ (cmds.getD k.1 []).length + costL (flds.getD k.1 []) ≤ 1600 := by decide
theorem cmd_kind : ∀ k : Fin 15, kindP (tx (cmds.getD k.1 [])) = (k.1 : Int) + 1 := by decide +kernel
theorem parse_write {x : ActP} (hx : ActN x) : parseP (writeP x) = ((fldZ x.k).foldl (setF x) (ActP.of x.k), 0) := by
  obtain ⟨hk1, hk2⟩ := hx.k
  have e1 : cmdZ x.k = cmds.getD (x.k.toNat - 1) [] := by unfold cmdZ; rw [if_pos ⟨hk1, hk2⟩]
  have e2 : fldZ x.k = flds.getD (x.k.toNat - 1) [] := by unfold fldZ; rw [if_pos ⟨hk1, hk2⟩]
  obtain ⟨c1, c2⟩ := cmd_facts ⟨x.k.toNat - 1, by omega⟩
  have c3 := cmd_kind ⟨x.k.toNat - 1, by omega⟩
  dsimp only at c1 c2 c3
  rw [← e1] at c1 c2 c3
  rw [← e2] at c2
  have hkk : kindP (tx (cmdZ x.k)) = x.k := by rw [c3]; omega
  have hlen : (writeP x).size ≤ 1600 := by
    unfold writeP
    rw [tx_size, joinL_cons, List.length_append]
    have := join_cost hx (fldZ x.k)
    omega
  have hf : (fieldsL (writeP x).data.toList) = cmdZ x.k :: (fldZ x.k).map (wordOf x) := by
    unfold writeP
    rw [tx_data]
    exact fields_join _ _ c1 (fun y hy => by
      obtain ⟨c, -, rfl⟩ := List.mem_map.1 hy
      exact (word_all hx c ActP.zero).2.1)
  unfold parseP
  rw [if_neg (by omega), hf]
  show (if kindP (tx (cmdZ x.k)) = 0 then _ else fillP (kindP (tx (cmdZ x.k))) (fldZ (kindP (tx (cmdZ x.k)))) (((fldZ x.k).map (wordOf x)).map tx)) = _
  rw [hkk, if_neg (by omega)]
  unfold fillP
  rw [List.length_map, List.length_map, if_neg (Nat.lt_irrefl _), if_neg (Nat.lt_irrefl _), readAll_words hx]
  rfl
end Go.Proofs.YtdhdkfnmbdejbaaDoor

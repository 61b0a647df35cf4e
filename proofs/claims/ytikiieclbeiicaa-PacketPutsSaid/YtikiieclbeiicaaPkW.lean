/- The packet that bytes are: the program's: contract. No conditions. -/
import Derived.Test.YtikiieclbeiicaaPkV
namespace Go.Proofs.Ytikiieclbeiicaa
set_option linter.unusedVariables false
set_option linter.unusedSimpArgs false
open Go.RowKit Sym Go.ChangeShapes Go.WideShapes Go.ChangeMaps Inet

/-- one letter of a memory by itself -/
theorem mem_pick {w0 w : World} {bs : List Nat} {H : List Blk} {B : List Value} (h : Mem w0 bs H B w) {k : Nat} {o : Bool} {e : TypeId} {sz n : Nat} {xs : List Value} {u : Value} (hk : H[k]? = some (.vec o e sz n xs)) (hu : B[k]? = some u) : Mem w0 bs [.vec o e sz n xs] [u] w := by
  have hs := h.sat.blk k _ u hk hu
  have one : ∀ j b, ExBlk [.vec o e sz n xs] [u] j b → j = 0 ∧ ExBlk H B k b := by
    rintro j b ⟨x, v, g1, g2, g3, g4⟩
    match j with
    | 0 =>
      simp only [List.getElem?_cons_zero, Option.some.injEq] at g1 g3
      subst g1 g3
      exact ⟨rfl, _, _, hk, g2, hu, g4⟩
    | j + 1 => simp at g1
  refine ⟨⟨rfl, fun j x v h1 h2 => ?_, fun i j b h1 h2 => (one _ _ h1).1.trans (one _ _ h2).1.symm, fun i j b h1 h2 => ?_⟩, h.keeps, fun j b h1 => h.good k b (one _ _ h1).2⟩
  · match j with
    | 0 =>
      simp only [List.getElem?_cons_zero, Option.some.injEq] at h1 h2
      subst h1 h2
      exact hs
    | j + 1 => simp at h1
  · obtain ⟨m, z, f, v, g1, -⟩ := h2
    match j with
    | 0 => simp at g1
    | j + 1 => simp at g1
def bodyS (s : ByteArray) : ByteArray := (aheadS s).extract (begunN (hG s).long).toNat (aheadS s).size
def pk0 (s : ByteArray) : Pk := ⟨(hG s).kind, (hG s).long, (hG s).src, (hG s).dst, (hG s).ccval, (hG s).cover, (hG s).seq, 0, 0, 0, 0, dataS s⟩
def pkG (s : ByteArray) : Pk := fldR (pk0 s) (bodyS s)
def optS (s : ByteArray) : ByteArray := (bodyS s).extract (nFld (pk0 s)) (bodyS s).size
def errG (s : ByteArray) (x y : Int) : Int :=
  if (s.size : Int) > 700 then 11 else if partsE s = 0 then (if rightB s x y = true then (if noughtR (pk0 s) (bodyS s) = 0 then (if getE (optS s) = 0 then (if ((pkG s).data.size : Int) > 200 then 11 else if spareP (pkG s) = true then 4 else 0) else getE (optS s)) else 4) else 5) else partsE s
def nonePk : Pk := ⟨0, false, 0, 0, 0, 0, 0, 0, 0, 0, 0, ⟨⟨[]⟩⟩⟩
theorem partsE_ok {s : ByteArray} (h : partsE s = 0) : (get s).2.2 = 0 ∧ 4 * (hG s).words ≤ s.size ∧ (aheadS s).size = restW s := by
  have ha : aheadS s = s.extract 0 (restW s) := if_pos h
  unfold partsE at h
  split at h
  · rename_i e
    split at h
    · cases h
    · rename_i h2
      have := get_words e
      refine ⟨e, by unfold hG; omega, ?_⟩
      rw [ha, ByteArray.size_extract]
      unfold restW
      omega
  · rename_i e; exact absurd h e
theorem fld_fits {s : ByteArray} (h : partsE s = 0) : (begunN (hG s).long).toNat + nFld (pk0 s) ≤ (aheadS s).size := by
  obtain ⟨e, h1, h2⟩ := partsE_ok h
  obtain ⟨l, eg, hc, h3, h4⟩ := getB_ok e
  have hG' : hG s = hd s l := by unfold hG; rw [eg]
  have hk := Head.check_ok hc
  have hsz := hk.2.2.2.2.2.2.2.2.2
  have hkk := hk.1
  rw [h2]
  unfold restW nFld nAck nSrv nRst pk0 begunN
  have hw : (get s).1 = hG s := rfl
  rw [hw, hG']
  have hk2 := hk.2.1
  have hw0 := hk.2.2.2.2.2.2.2.2.1
  clear hk hc h4 eg hw hG' h1 h2
  generalize hd s l = H at *
  obtain ⟨q1, q2, words, q3, q4, q5, kind, long, q6⟩ := H
  dsimp only at *
  have kk : kind = 0 ∨ kind = 1 ∨ kind = 2 ∨ kind = 3 ∨ kind = 4 ∨ kind = 5 ∨ kind = 6 ∨ kind = 7 ∨ kind = 8 ∨ kind = 9 := by omega
  rcases kk with rfl | rfl | rfl | rfl | rfl | rfl | rfl | rfl | rfl | rfl <;> cases long <;>
    first
    | (simp [Head.brief] at hk2; done)
    | (simp [Head.size, Head.known, Head.brief, Head.acks, Head.more] at hsz; simp [Head.acks, served]; omega)
set_option maxRecDepth 100000 in
set_option maxHeartbeats 2000000 in
theorem fPGet_run (s : ByteArray) (x y : Int) (hs : s.size ≤ 4000) : (runF Try.prog (CGt2 Try.prog Try.f55) noL Try.f15 (Try.f15.body.getD .skip) [.v (.string s), .v (.agg #[.int .i64 x, .int .i64 y])] []).ok fun r =>
    (errG s x y = 0 ∧ r.1 = .tup [(pkG s).s (.ref 7), .c (.int .i64 0)] ∧ r.2[7]? = some (.vec true 78 2 (optsOf (optS s)).length (opCells (optsOf (optS s))))) ∨ (¬ errG s x y = 0 ∧ r.1 = .v (.tuple #[nonePk.v (.slice none 0 0), .int .i64 (errG s x y)])) := by
  rw [pget2_run]
  have hgt : ∀ z : Int, (z > 0 → ¬ z = 0) := fun z h => by omega
  have no : ∀ (H : List Blk) (z : Int), errG s x y = z → ¬ z = 0 → ((errG s x y = 0 ∧ (SV.v (.tuple #[nonePk.v (.slice none 0 0), .int .i64 z]), H).1 = .tup [(pkG s).s (.ref 7), .c (.int .i64 0)] ∧ (SV.v (.tuple #[nonePk.v (.slice none 0 0), .int .i64 z]), H).2[7]? = some (.vec true 78 2 (optsOf (optS s)).length (opCells (optsOf (optS s))))) ∨ (¬ errG s x y = 0 ∧ (SV.v (.tuple #[nonePk.v (.slice none 0 0), .int .i64 z]), H).1 = .v (.tuple #[nonePk.v (.slice none 0 0), .int .i64 (errG s x y)]))) := fun H z h1 h2 => .inr ⟨by rw [h1]; exact h2, by rw [h1]⟩
  have nd : ∀ {b : Prop} {i : Decidable b}, (!decide b) = true → ¬ b := fun {b i} h e => by rw [decide_eq_true e] at h; cases h
  have nf : ∀ {b : Prop} {i : Decidable b}, (!decide b) = false → b := fun {b i} h => by
    by_cases e : b
    · exact e
    · rw [decide_eq_false e] at h; cases h
  refine t_ite (fun h => t_leaf (no _ 11 (if_pos (of_decide_eq_true h)) (by decide))) fun h7 => t_need hs (t_ite (fun h => ?_) fun hp => t_need hs (t_ite (fun h => ?_) fun hr => ?_))
  · have h := nd h
    refine t_leaf (no _ (partsE s) ?_ h)
    unfold errG; rw [if_neg (of_decide_eq_false h7), if_neg h]
  · have hp := nf hp
    refine t_leaf (no _ 5 ?_ (by decide))
    unfold errG; rw [if_neg (of_decide_eq_false h7), if_pos hp, if_neg (by simpa using h)]
  · have hp := nf hp
    have hr : rightB s x y = true := by simpa using hr
    have h7 := of_decide_eq_false h7
    have fit := fld_fits hp
    have hbd : (bodyS s).size = (aheadS s).size - (begunN (hG s).long).toNat := by unfold bodyS; rw [ByteArray.size_extract]; omega
    have hb0 : 0 ≤ begunN (hG s).long := by unfold begunN; split <;> decide
    have hah := (partsE_ok hp).2
    have hrs : restW s ≤ s.size := by
      have := hah.1
      show (4 * (hG s).words).toNat ≤ _
      omega
    have hos : (optS s).size ≤ 1000 := by unfold optS; rw [ByteArray.size_extract]; omega
    refine t_need ⟨hb0, by omega, by omega⟩ (t_need ⟨?n1, ?n2⟩ (t_ite (fun h => ?a) fun hn => t_need ⟨rfl, by omega, ?n3, ?n4⟩ (t_need ?n5 (t_ite (fun hg => t_ite (fun h => by cases h) fun _ => t_ite (fun h => ?b) fun hd => t_need trivial (t_ite (fun h => ?c) fun hsp => t_leaf (.inl ⟨?d, rfl, rfl⟩))) fun hg => t_ite (fun h => ?e) fun h => ?f))))
    case n1 => show nFld (pk0 s) ≤ (bodyS s).size; omega
    case n2 => show (bodyS s).size ≤ 1000000; omega
    case n3 => show ((nFld (pk0 s) : Nat) : Int) ≤ (bodyS s).size; omega
    case n4 => show (bodyS s).size ≤ 1000000; omega
    case n5 => exact hos
    case a =>
      have h : ¬ noughtR (pk0 s) (bodyS s) = 0 := nd h
      refine t_leaf (no _ 4 ?_ (by decide))
      unfold errG; rw [if_neg h7, if_pos hp, if_pos hr, if_neg h]
    all_goals have hn : noughtR (pk0 s) (bodyS s) = 0 := nf hn
    case b =>
      have hg : getE (optS s) = 0 := of_decide_eq_true hg
      have h : ((pkG s).data.size : Int) > 200 := of_decide_eq_true h
      refine t_leaf (no _ 11 ?_ (by decide))
      unfold errG; rw [if_neg h7, if_pos hp, if_pos hr, if_pos hn, if_pos hg, if_pos h]
    case c =>
      have hg : getE (optS s) = 0 := of_decide_eq_true hg
      have hd : ¬ ((pkG s).data.size : Int) > 200 := of_decide_eq_false hd
      have h : spareP (pkG s) = true := h
      refine t_leaf (no _ 4 ?_ (by decide))
      unfold errG; rw [if_neg h7, if_pos hp, if_pos hr, if_pos hn, if_pos hg, if_neg hd, if_pos h]
    case d =>
      have hg : getE (optS s) = 0 := of_decide_eq_true hg
      have hd : ¬ ((pkG s).data.size : Int) > 200 := of_decide_eq_false hd
      have hsp : spareP (pkG s) = false := hsp
      unfold errG; rw [if_neg h7, if_pos hp, if_pos hr, if_pos hn, if_pos hg, if_neg hd, hsp, if_neg (by decide)]
    case e =>
      have h : ¬ getE (optS s) = 0 := nd h
      refine t_leaf (no _ (getE (optS s)) ?_ h)
      unfold errG; rw [if_neg h7, if_pos hp, if_pos hr, if_pos hn, if_neg h]
    case f =>
      have h : getE (optS s) = 0 := nf h
      exact absurd h (of_decide_eq_false hg)
def fPGet : List SV → List Blk → Option (T (SV × List Blk))
  | [.v (.string s), .v (.agg ⟨[.int .i64 x, .int .i64 y]⟩)], [] => some (.need (s.size ≤ 4000) (.ite (decide (errG s x y = 0)) (.leaf (.tup [(pkG s).s (.ref 0), .v (.int .i64 0)], [.vec true 78 2 (optsOf (optS s)).length (opCells (optsOf (optS s)))])) (.leaf (.v (.tuple #[nonePk.v (.slice none 0 0), .int .i64 (errG s x y)]), []))))
  | _, _ => none
set_option maxRecDepth 100000 in
theorem fPGet_ok : EntryOk Try.prog 15 fPGet := by
  intro ss H t ht bs B w vs hm hv Qs hq
  unfold fPGet at ht
  split at ht
  · rename_i s x y
    simp only [Option.some.injEq] at ht
    subst ht
    obtain ⟨hs, hq1, hq2⟩ := hq
    refine (inl_ok CGt2_ok follows Try.func15 (by kernel_rfl) (by kernel_rfl) (noloops (by kernel_rfl)) [.v (.string s), .v (.agg ⟨[.int .i64 x, .int .i64 y]⟩)] [] _ rfl bs B w vs hm hv _ (fPGet_run s x y hs)).mono ?_
    rintro e w' ⟨s1, H1, B1, v, hr, hpr, he', hx, hm'⟩
    obtain rfl : B = [] := List.length_eq_zero_iff.1 hm.sat.len
    rcases hr with ⟨h0, hr, hr2⟩ | ⟨h0, hr⟩
    · dsimp only at hr hr2
      subst hr
      obtain ⟨hl, -⟩ := List.getElem?_eq_some_iff.1 hr2
      have hB : 7 < B1.length := by rw [hm'.sat.len]; exact hl
      obtain ⟨u, hu⟩ : ∃ u, B1[7]? = some u := ⟨_, List.getElem?_eq_getElem hB⟩
      refine ⟨_, _, [u], v, hq1 (decide_eq_true h0), List.nil_prefix, he', ?_, mem_pick hm' hr2 hu⟩
      rw [← hx]
      simp [SV.to, SV.tos, hu]
    · dsimp only at hr
      subst hr
      have hm2 := only_mem hm' List.nil_prefix
      exact ⟨_, _, [], v, hq2 (decide_eq_false h0), List.prefix_refl _, he', hx, hm2⟩
  · cases ht
end Go.Proofs.Ytikiieclbeiicaa

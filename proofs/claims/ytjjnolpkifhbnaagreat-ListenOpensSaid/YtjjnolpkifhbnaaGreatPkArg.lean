/- An argument that is a packet. No conditions. -/
import Derived.Test.YtjjnolpkifhbnaaGreatPaA
namespace Go.Proofs.YtjjnolpkifhbnaaGreat
set_option linter.unusedVariables false
set_option linter.unusedSimpArgs false
open Go.RowKit Sym Go.ChangeShapes Go.WideShapes Go.ChangeMaps Inet Go.Deep

theorem slice_cell {H : Type} {enc : TypeId × Value → H} {W : World} {base fuel : Nat} {sp : Nat → Bool} {e t : TypeId} {c : Value} {y : DataW H × List MemPlace} (ht : Tryz.prog.underlying t = some (.slice e)) (hy : DataW.trod enc Tryz.prog W base sp true fuel t [c] = some y) : (∃ a len cap, c = .slice a len cap) ∧ DataW.Trod enc Tryz.prog W base sp true t c y.1 y.2 := by
  have h : ∃ a len cap, c = .slice a len cap := by
    rcases open_slice ht hy with ⟨h0, _⟩ | ⟨a, len, cap, m, k, D, Pl, h0, -⟩
    · simp only [List.cons.injEq, and_true] at h0; exact ⟨_, _, _, h0⟩
    · simp only [List.cons.injEq, and_true] at h0; exact ⟨_, _, _, h0⟩
  obtain ⟨a, len, cap, rfl⟩ := h
  exact ⟨⟨_, _, _, rfl⟩, fuel, hy⟩
def Pk.l (p : Pk) (o : Value) : List Value := [.int .i64 p.kind, .bool p.long, .int .i64 p.src, .int .i64 p.dst, .int .i64 p.ccval, .int .i64 p.cover, .int .i64 p.seq, .int .i64 p.ack, .int .i64 p.service, .int .i64 p.code, .int .i64 p.detail, o, .string p.data]
set_option maxRecDepth 100000 in
theorem trod_pk {H : Type} {enc : TypeId × Value → H} {W : World} {base fuel : Nat} {sp : Nat → Bool} {cs : List Value} {y0 : DataW H × List MemPlace} (hl : cs.length = 13) (hf : DataW.trod enc Tryz.prog W base sp true fuel 24 cs = some y0) :
    ∃ (q : Pk) (o : Value) (n : Nat) (g : Nat → Op), cs = q.l o ∧ n ≤ maxLen ∧ (∀ i, (g i).val.size ≤ maxLen) ∧ q.data.size ≤ maxLen ∧ ∀ B, BlkSat B W o (.row n 2 fun i j => (g i).c j) := by
  match cs, hl with
  | [kind_c, long_c, src_c, dst_c, ccval_c, cover_c, seq_c, ack_c, service_c, code_c, detail_c, opts_c, data_c], _ =>
  obtain ⟨xs, n, _, _, _, hlen, hg⟩ := DataW.trod_struct Tryz.underlying24 hf
  obtain ⟨y, hy⟩ : ∃ y, xs[0]? = some y := ⟨_, List.getElem?_eq_getElem (by rw [hlen]; decide)⟩
  rw [← hg 0 _ rfl] at hy
  simp [List.range_succ, show Tryz.prog.cellsOf 3 = 1 from by kernel_rfl] at hy
  obtain ⟨kind, e, _, w_kind⟩ := DataW.trod_int Tryz.underlying3 hy
  simp at e
  subst e
  clear hy
  obtain ⟨y, hy⟩ : ∃ y, xs[1]? = some y := ⟨_, List.getElem?_eq_getElem (by rw [hlen]; decide)⟩
  rw [← hg 1 _ rfl] at hy
  simp [List.range_succ, show Tryz.prog.cellsOf 4 = 1 from by kernel_rfl] at hy
  obtain ⟨long, e, _⟩ := DataW.trod_bool Tryz.underlying4 hy
  simp at e
  subst e
  clear hy
  obtain ⟨y, hy⟩ : ∃ y, xs[2]? = some y := ⟨_, List.getElem?_eq_getElem (by rw [hlen]; decide)⟩
  rw [← hg 2 _ rfl] at hy
  simp [List.range_succ, show Tryz.prog.cellsOf 3 = 1 from by kernel_rfl] at hy
  obtain ⟨src, e, _, w_src⟩ := DataW.trod_int Tryz.underlying3 hy
  simp at e
  subst e
  clear hy
  obtain ⟨y, hy⟩ : ∃ y, xs[3]? = some y := ⟨_, List.getElem?_eq_getElem (by rw [hlen]; decide)⟩
  rw [← hg 3 _ rfl] at hy
  simp [List.range_succ, show Tryz.prog.cellsOf 3 = 1 from by kernel_rfl] at hy
  obtain ⟨dst, e, _, w_dst⟩ := DataW.trod_int Tryz.underlying3 hy
  simp at e
  subst e
  clear hy
  obtain ⟨y, hy⟩ : ∃ y, xs[4]? = some y := ⟨_, List.getElem?_eq_getElem (by rw [hlen]; decide)⟩
  rw [← hg 4 _ rfl] at hy
  simp [List.range_succ, show Tryz.prog.cellsOf 3 = 1 from by kernel_rfl] at hy
  obtain ⟨ccval, e, _, w_ccval⟩ := DataW.trod_int Tryz.underlying3 hy
  simp at e
  subst e
  clear hy
  obtain ⟨y, hy⟩ : ∃ y, xs[5]? = some y := ⟨_, List.getElem?_eq_getElem (by rw [hlen]; decide)⟩
  rw [← hg 5 _ rfl] at hy
  simp [List.range_succ, show Tryz.prog.cellsOf 3 = 1 from by kernel_rfl] at hy
  obtain ⟨cover, e, _, w_cover⟩ := DataW.trod_int Tryz.underlying3 hy
  simp at e
  subst e
  clear hy
  obtain ⟨y, hy⟩ : ∃ y, xs[6]? = some y := ⟨_, List.getElem?_eq_getElem (by rw [hlen]; decide)⟩
  rw [← hg 6 _ rfl] at hy
  simp [List.range_succ, show Tryz.prog.cellsOf 3 = 1 from by kernel_rfl] at hy
  obtain ⟨seq, e, _, w_seq⟩ := DataW.trod_int Tryz.underlying3 hy
  simp at e
  subst e
  clear hy
  obtain ⟨y, hy⟩ : ∃ y, xs[7]? = some y := ⟨_, List.getElem?_eq_getElem (by rw [hlen]; decide)⟩
  rw [← hg 7 _ rfl] at hy
  simp [List.range_succ, show Tryz.prog.cellsOf 3 = 1 from by kernel_rfl] at hy
  obtain ⟨ack, e, _, w_ack⟩ := DataW.trod_int Tryz.underlying3 hy
  simp at e
  subst e
  clear hy
  obtain ⟨y, hy⟩ : ∃ y, xs[8]? = some y := ⟨_, List.getElem?_eq_getElem (by rw [hlen]; decide)⟩
  rw [← hg 8 _ rfl] at hy
  simp [List.range_succ, show Tryz.prog.cellsOf 3 = 1 from by kernel_rfl] at hy
  obtain ⟨service, e, _, w_service⟩ := DataW.trod_int Tryz.underlying3 hy
  simp at e
  subst e
  clear hy
  obtain ⟨y, hy⟩ : ∃ y, xs[9]? = some y := ⟨_, List.getElem?_eq_getElem (by rw [hlen]; decide)⟩
  rw [← hg 9 _ rfl] at hy
  simp [List.range_succ, show Tryz.prog.cellsOf 3 = 1 from by kernel_rfl] at hy
  obtain ⟨code, e, _, w_code⟩ := DataW.trod_int Tryz.underlying3 hy
  simp at e
  subst e
  clear hy
  obtain ⟨y, hy⟩ : ∃ y, xs[10]? = some y := ⟨_, List.getElem?_eq_getElem (by rw [hlen]; decide)⟩
  rw [← hg 10 _ rfl] at hy
  simp [List.range_succ, show Tryz.prog.cellsOf 3 = 1 from by kernel_rfl] at hy
  obtain ⟨detail, e, _, w_detail⟩ := DataW.trod_int Tryz.underlying3 hy
  simp at e
  subst e
  clear hy
  obtain ⟨y, hy⟩ : ∃ y, xs[11]? = some y := ⟨_, List.getElem?_eq_getElem (by rw [hlen]; decide)⟩
  rw [← hg 11 _ rfl] at hy
  simp [List.range_succ, show Tryz.prog.cellsOf 22 = 1 from by kernel_rfl] at hy
  obtain ⟨hs, ht⟩ := slice_cell Tryz.underlying22 hy
  obtain ⟨m, g, g1, g2, g3⟩ := open_opts_of hs ht
  clear hy hs ht
  obtain ⟨y, hy⟩ : ∃ y, xs[12]? = some y := ⟨_, List.getElem?_eq_getElem (by rw [hlen]; decide)⟩
  rw [← hg 12 _ rfl] at hy
  simp [List.range_succ, show Tryz.prog.cellsOf 9 = 1 from by kernel_rfl] at hy
  obtain ⟨data, e, _, w_data⟩ := DataW.trod_string Tryz.underlying9 hy
  simp at e
  subst e
  clear hy
  exact ⟨⟨kind, long, src, dst, ccval, cover, seq, ack, service, code, detail, data⟩, opts_c, m, g, rfl, g1, g2, w_data, g3⟩
set_option maxRecDepth 100000 in
theorem open_pk {H : Type} {enc : TypeId × Value → H} {W : World} {base b0 : Nat} {r : Reach} {sp : Nat → Bool} {v : Value} {d : DataW H} {p : List MemPlace} (hv : Value.okWide Tryz.prog W r b0 24 v) (h : DataW.Trod enc Tryz.prog W base sp true 24 v d p) :
    ∃ (q : Pk) (o : Value) (n : Nat) (g : Nat → Op), v = q.v o ∧ n ≤ maxLen ∧ (∀ i, (g i).val.size ≤ maxLen) ∧ q.data.size ≤ maxLen ∧ ∀ B, BlkSat B W o (.row n 2 fun i j => (g i).c j) := by
  obtain ⟨cs, rfl, hsz⟩ := okWide_struct Tryz.underlying24 hv
  rw [show Tryz.prog.cellsOf 24 = 13 from by kernel_rfl] at hsz
  obtain ⟨l⟩ := cs
  obtain ⟨fuel, hf⟩ := h
  have hl : l.length = 13 := by simpa using hsz
  have hl : ((Value.agg ⟨l⟩).cells.toList).length = 13 := hl
  obtain ⟨q, o, n, g, e, h1⟩ := trod_pk hl hf
  exact ⟨q, o, n, g, by rw [show l = q.l o from e]; rfl, h1⟩
end Go.Proofs.YtjjnolpkifhbnaaGreat

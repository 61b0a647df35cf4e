/- Cookies: sealed and opened; the laws. No conditions. -/
import Derived.Test.YtapogkodlempkaaCookB
namespace Go.Proofs.Ytapogkodlempkaa
set_option linter.unusedVariables false
set_option linter.unusedSimpArgs false
open Go.RowKit Sym Sha Go.ChangeShapes Go.WideShapes Go.ChangeMaps

/-- a note -/
structure Nt where
  a : Int
  b : Int
  c : Int
  d : Int
  x : ByteArray
def nt0 : Nt := ⟨0, 0, 0, 0, ⟨⟨[]⟩⟩⟩
def Nt.v (n : Nt) : Value := .agg #[.int .i64 n.a, .int .i64 n.b, .int .i64 n.c, .int .i64 n.d, .string n.x]
def noteB (n : Nt) : ByteArray := Oct.put (Oct.put (Oct.put (Oct.put ⟨⟨[]⟩⟩ n.a 6) n.b 6) n.c 4) n.d 6 ++ n.x
def okN (n : Nt) : Prop := (0 ≤ n.a ∧ n.a < 281474976710656) ∧ (0 ≤ n.b ∧ n.b < 281474976710656) ∧ (0 ≤ n.c ∧ n.c < 4294967296) ∧ (0 ≤ n.d ∧ n.d < 1099511627777)
instance (n : Nt) : Decidable (okN n) := by unfold okN; exact inferInstance
def sealE (n : Nt) : Int := if okN n then (if n.x.size > 40 then 11 else 0) else 3
def sealS (k : ByteArray) (f t : Int) (n : Nt) : ByteArray := if okN n ∧ ¬ n.x.size > 40 then noteB n ++ markB k f t (noteB n) else ⟨⟨[]⟩⟩
theorem noteB_size (n : Nt) : (noteB n).size = 22 + n.x.size := by unfold noteB; rw [ByteArray.size_append, put_sz, put_sz, put_sz, put_sz, b1]; rfl
theorem markB_size (k : ByteArray) (f t : Int) (s : ByteArray) : (markB k f t s).size = 16 := by unfold markB; rw [ByteArray.size_extract, macOf_size]; rfl
theorem seal_bad {k : ByteArray} {f t : Int} {n : Nt} (h : ¬ okN n) : Value.tuple #[.string ⟨⟨[]⟩⟩, .int .i64 3] = Value.tuple #[.string (sealS k f t n), .int .i64 (sealE n)] := by
  unfold sealS sealE; rw [if_neg (fun g => h g.1), if_neg h]
theorem seal_long {k : ByteArray} {f t : Int} {n : Nt} (h : okN n) (g : n.x.size > 40) : Value.tuple #[.string ⟨⟨[]⟩⟩, .int .i64 11] = Value.tuple #[.string (sealS k f t n), .int .i64 (sealE n)] := by
  unfold sealS sealE; rw [if_neg (fun g' => g'.2 g), if_pos h, if_pos g]
theorem seal_good {k : ByteArray} {f t : Int} {n : Nt} (h : okN n) (g : ¬ n.x.size > 40) : Value.tuple #[.string (noteB n ++ markB k f t (noteB n)), .int .i64 0] = Value.tuple #[.string (sealS k f t n), .int .i64 (sealE n)] := by
  unfold sealS sealE; rw [if_pos ⟨h, g⟩, if_pos h, if_neg g]
set_option maxRecDepth 100000 in
theorem cookie_Seal (k : ByteArray) (f t : Int) (n : Nt) (hk : k.size ≤ 1000000000000) (w : World) : Calls Try.prog 48 #[.string k, .agg #[.int .i64 f, .int .i64 t], n.v] w fun e w' => e = .returned (.tuple #[.string (sealS k f t n), .int .i64 (sealE n)]) ∧ Below w.heap.size w w' := by
  obtain ⟨a, b, c, d, x⟩ := n
  refine calls_runV (onlyS_ok SCook2_ok) follows Try.func48 (by kernel_rfl) (by kernel_rfl) (noloops (by kernel_rfl)) (seal_run k f t a b c d x) ?_ w
  have hz := noteB_size ⟨a, b, c, d, x⟩
  have hm := markB_size k f t (noteB ⟨a, b, c, d, x⟩)
  refine ⟨fun h => ?_, fun h1 => ⟨fun h => ?_, fun h2 => ⟨fun h => ?_, fun h3 => ⟨fun h => ?_, fun h4 => ⟨fun h => ?_, fun h5 => ?_⟩⟩⟩⟩⟩
  · exact seal_bad (n := ⟨a, b, c, d, x⟩) fun g => ndt h g.1
  · exact seal_bad (n := ⟨a, b, c, d, x⟩) fun g => ndt h g.2.1
  · exact seal_bad (n := ⟨a, b, c, d, x⟩) fun g => ndt h g.2.2.1
  · exact seal_bad (n := ⟨a, b, c, d, x⟩) fun g => ndt h g.2.2.2
  · have h := of_decide_eq_true h
    exact seal_long (n := ⟨a, b, c, d, x⟩) ⟨ndf h1, ndf h2, ndf h3, ndf h4⟩ (by show x.size > 40; omega)
  · have h5 := of_decide_eq_false h5
    have hx : x.size ≤ 40 := by omega
    have hz : (noteB ⟨a, b, c, d, x⟩).size = 22 + x.size := hz
    refine ⟨⟨by omega, by omega, by decide⟩, ⟨by omega, by omega, ?_⟩, ⟨by omega, by omega, ?_⟩, ⟨by omega, by omega, ?_⟩, ?_, ⟨hk, ?_⟩, ?_, ?_⟩
    · rw [put_sz]; decide
    · rw [put_sz, put_sz]; decide
    · rw [put_sz, put_sz, put_sz]; decide
    · rw [put_sz, put_sz, put_sz, put_sz]
      show 0 + 6 + 6 + 4 + 6 + x.size ≤ _
      omega
    · show (noteB ⟨a, b, c, d, x⟩).size ≤ _
      omega
    · show (noteB ⟨a, b, c, d, x⟩).size + (markB k f t (noteB ⟨a, b, c, d, x⟩)).size ≤ _
      omega
    · exact seal_good (n := ⟨a, b, c, d, x⟩) ⟨ndf h1, ndf h2, ndf h3, ndf h4⟩ (by show ¬ x.size > 40; omega)
set_option maxRecDepth 100000 in
theorem ref16_Seal (k : ByteArray) (f t : Int) (n : Nt) (hk : k.size ≤ 1000000000000) (w : World) : Calls Try.prog 50 #[.string k, .agg #[.int .i64 f, .int .i64 t], n.v] w fun e w' => e = .returned (.tuple #[.string (sealS k f t n), .int .i64 (sealE n)]) ∧ Below w.heap.size w w' := by
  obtain ⟨a, b, c, d, x⟩ := n
  refine calls_runV (onlyS_ok SCook2_ok) follows Try.func50 (by kernel_rfl) (by kernel_rfl) (noloops (by kernel_rfl)) (seal16_run k f t a b c d x) ?_ w
  have hz := noteB_size ⟨a, b, c, d, x⟩
  have hm := markB_size k f t (noteB ⟨a, b, c, d, x⟩)
  refine ⟨fun h => ?_, fun h1 => ⟨fun h => ?_, fun h2 => ⟨fun h => ?_, fun h3 => ⟨fun h => ?_, fun h4 => ⟨fun h => ?_, fun g1 => ⟨fun h => ?_, fun g2 => ⟨fun h => ?_, fun g3 => ⟨fun h => ?_, fun g4 => ⟨fun h => ?_, fun h5 => ?_⟩⟩⟩⟩⟩⟩⟩⟩⟩
  · exact seal_bad (n := ⟨a, b, c, d, x⟩) fun g => by have h := of_decide_eq_true h; have := g.1.1; simp only at this; omega
  · exact seal_bad (n := ⟨a, b, c, d, x⟩) fun g => by have h := of_decide_eq_true h; have := g.2.1.1; simp only at this; omega
  · exact seal_bad (n := ⟨a, b, c, d, x⟩) fun g => by have h := of_decide_eq_true h; have := g.2.2.1.1; simp only at this; omega
  · exact seal_bad (n := ⟨a, b, c, d, x⟩) fun g => by have h := of_decide_eq_true h; have := g.2.2.2.1; simp only at this; omega
  · exact seal_bad (n := ⟨a, b, c, d, x⟩) fun g => by have h := of_decide_eq_true h; have := g.1.2; simp only at this; omega
  · exact seal_bad (n := ⟨a, b, c, d, x⟩) fun g => by have h := of_decide_eq_true h; have := g.2.1.2; simp only at this; omega
  · exact seal_bad (n := ⟨a, b, c, d, x⟩) fun g => by have h := of_decide_eq_true h; have := g.2.2.1.2; simp only at this; omega
  · exact seal_bad (n := ⟨a, b, c, d, x⟩) fun g => by have h := of_decide_eq_true h; have := g.2.2.2.2; simp only at this; omega
  all_goals
    have h1 := of_decide_eq_false h1
    have h2 := of_decide_eq_false h2
    have h3 := of_decide_eq_false h3
    have h4 := of_decide_eq_false h4
    have g1 := of_decide_eq_false g1
    have g2 := of_decide_eq_false g2
    have g3 := of_decide_eq_false g3
    have g4 := of_decide_eq_false g4
    have hok : okN ⟨a, b, c, d, x⟩ := ⟨⟨by simp only; omega, by simp only; omega⟩, ⟨by simp only; omega, by simp only; omega⟩, ⟨by simp only; omega, by simp only; omega⟩, ⟨by simp only; omega, by simp only; omega⟩⟩
  · have h := of_decide_eq_true h
    exact seal_long (n := ⟨a, b, c, d, x⟩) hok (by show x.size > 40; omega)
  · have h5 := of_decide_eq_false h5
    have hx : x.size ≤ 40 := by omega
    have hz : (noteB ⟨a, b, c, d, x⟩).size = 22 + x.size := hz
    refine ⟨⟨by omega, by omega, by decide⟩, ⟨by omega, by omega, ?_⟩, ⟨by omega, by omega, ?_⟩, ⟨by omega, by omega, ?_⟩, ?_, ⟨hk, ?_⟩, ?_, ?_⟩
    · rw [put_sz]; decide
    · rw [put_sz, put_sz]; decide
    · rw [put_sz, put_sz, put_sz]; decide
    · rw [put_sz, put_sz, put_sz, put_sz]
      show 0 + 6 + 6 + 4 + 6 + x.size ≤ _
      omega
    · show (noteB ⟨a, b, c, d, x⟩).size ≤ _
      omega
    · show (noteB ⟨a, b, c, d, x⟩).size + (markB k f t (noteB ⟨a, b, c, d, x⟩)).size ≤ _
      omega
    · exact seal_good (n := ⟨a, b, c, d, x⟩) hok (by show ¬ x.size > 40; omega)
end Go.Proofs.Ytapogkodlempkaa

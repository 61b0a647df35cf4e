/- Cookies: sealed and opened; the laws. No conditions. -/
import Derived.Test.YtjjnolpkifhbnaaGreatCookA
namespace Go.Proofs.YtjjnolpkifhbnaaGreat
set_option linter.unusedVariables false
set_option linter.unusedSimpArgs false
open Go.RowKit Sym Sha Go.ChangeShapes Go.WideShapes Go.ChangeMaps

/-- a note -/
structure Nt where
  a : Int
  b : Int
  c : Int
  d : Int
  x : ByteArray
def nt0 : Nt := ⟨0, 0, 0, 0, ⟨⟨[]⟩⟩⟩
def Nt.v (n : Nt) : Value := .agg #[.int .i64 n.a, .int .i64 n.b, .int .i64 n.c, .int .i64 n.d, .string n.x]
def noteB (n : Nt) : ByteArray := Oct.put (Oct.put (Oct.put (Oct.put ⟨⟨[]⟩⟩ n.a 6) n.b 6) n.c 4) n.d 6 ++ n.x
def okN (n : Nt) : Prop := (0 ≤ n.a ∧ n.a < 281474976710656) ∧ (0 ≤ n.b ∧ n.b < 281474976710656) ∧ (0 ≤ n.c ∧ n.c < 4294967296) ∧ (0 ≤ n.d ∧ n.d < 1099511627777)
instance (n : Nt) : Decidable (okN n) := by unfold okN; exact inferInstance
def sealE (n : Nt) : Int := if okN n then (if n.x.size > 40 then 11 else 0) else 3
def sealS (k : ByteArray) (f t : Int) (n : Nt) : ByteArray := if okN n ∧ ¬ n.x.size > 40 then noteB n ++ markB k f t (noteB n) else ⟨⟨[]⟩⟩
theorem noteB_size (n : Nt) : (noteB n).size = 22 + n.x.size := by unfold noteB; rw [ByteArray.size_append, put_sz, put_sz, put_sz, put_sz, b1]; rfl
theorem markB_size (k : ByteArray) (f t : Int) (s : ByteArray) : (markB k f t s).size = 16 := by unfold markB; rw [ByteArray.size_extract, macOf_size]; rfl
theorem seal_bad {k : ByteArray} {f t : Int} {n : Nt} (h : ¬ okN n) : Value.tuple #[.string ⟨⟨[]⟩⟩, .int .i64 3] = Value.tuple #[.string (sealS k f t n), .int .i64 (sealE n)] := by
  unfold sealS sealE; rw [if_neg (fun g => h g.1), if_neg h]
theorem seal_long {k : ByteArray} {f t : Int} {n : Nt} (h : okN n) (g : n.x.size > 40) : Value.tuple #[.string ⟨⟨[]⟩⟩, .int .i64 11] = Value.tuple #[.string (sealS k f t n), .int .i64 (sealE n)] := by
  unfold sealS sealE; rw [if_neg (fun g' => g'.2 g), if_pos h, if_pos g]
theorem seal_good {k : ByteArray} {f t : Int} {n : Nt} (h : okN n) (g : ¬ n.x.size > 40) : Value.tuple #[.string (noteB n ++ markB k f t (noteB n)), .int .i64 0] = Value.tuple #[.string (sealS k f t n), .int .i64 (sealE n)] := by
  unfold sealS sealE; rw [if_pos ⟨h, g⟩, if_pos h, if_neg g]
set_option maxRecDepth 100000 in
theorem cookie_Seal (k : ByteArray) (f t : Int) (n : Nt) (hk : k.size ≤ 1000000000000) (w : World) : Calls Tryz.prog 25 #[.string k, .agg #[.int .i64 f, .int .i64 t], n.v] w fun e w' => e = .returned (.tuple #[.string (sealS k f t n), .int .i64 (sealE n)]) ∧ Below w.heap.size w w' := by
  obtain ⟨a, b, c, d, x⟩ := n
  refine calls_runV (onlyS_ok SCook2_ok) follows Tryz.func25 (by kernel_rfl) (by kernel_rfl) (noloops (by kernel_rfl)) (seal_run k f t a b c d x) ?_ w
  have hz := noteB_size ⟨a, b, c, d, x⟩
  have hm := markB_size k f t (noteB ⟨a, b, c, d, x⟩)
  refine ⟨fun h => ?_, fun h1 => ⟨fun h => ?_, fun h2 => ⟨fun h => ?_, fun h3 => ⟨fun h => ?_, fun h4 => ⟨fun h => ?_, fun h5 => ?_⟩⟩⟩⟩⟩
  · exact seal_bad (n := ⟨a, b, c, d, x⟩) fun g => ndt h g.1
  · exact seal_bad (n := ⟨a, b, c, d, x⟩) fun g => ndt h g.2.1
  · exact seal_bad (n := ⟨a, b, c, d, x⟩) fun g => ndt h g.2.2.1
  · exact seal_bad (n := ⟨a, b, c, d, x⟩) fun g => ndt h g.2.2.2
  · have h := of_decide_eq_true h
    exact seal_long (n := ⟨a, b, c, d, x⟩) ⟨ndf h1, ndf h2, ndf h3, ndf h4⟩ (by show x.size > 40; omega)
  · have h5 := of_decide_eq_false h5
    have hx : x.size ≤ 40 := by omega
    have hz : (noteB ⟨a, b, c, d, x⟩).size = 22 + x.size := hz
    refine ⟨⟨by omega, by omega, by decide⟩, ⟨by omega, by omega, ?_⟩, ⟨by omega, by omega, ?_⟩, ⟨by omega, by omega, ?_⟩, ?_, ⟨hk, ?_⟩, ?_, ?_⟩
    · rw [put_sz]; decide
    · rw [put_sz, put_sz]; decide
    · rw [put_sz, put_sz, put_sz]; decide
    · rw [put_sz, put_sz, put_sz, put_sz]
      show 0 + 6 + 6 + 4 + 6 + x.size ≤ _
      omega
    · show (noteB ⟨a, b, c, d, x⟩).size ≤ _
      omega
    · show (noteB ⟨a, b, c, d, x⟩).size + (markB k f t (noteB ⟨a, b, c, d, x⟩)).size ≤ _
      omega
    · exact seal_good (n := ⟨a, b, c, d, x⟩) ⟨ndf h1, ndf h2, ndf h3, ndf h4⟩ (by show ¬ x.size > 40; omega)
set_option maxRecDepth 100000 in
theorem ref16_Seal (k : ByteArray) (f t : Int) (n : Nt) (hk : k.size ≤ 1000000000000) (w : World) : Calls Tryz.prog 29 #[.string k, .agg #[.int .i64 f, .int .i64 t], n.v] w fun e w' => e = .returned (.tuple #[.string (sealS k f t n), .int .i64 (sealE n)]) ∧ Below w.heap.size w w' := by
  obtain ⟨a, b, c, d, x⟩ := n
  refine calls_runV (onlyS_ok SCook2_ok) follows Tryz.func29 (by kernel_rfl) (by kernel_rfl) (noloops (by kernel_rfl)) (seal16_run k f t a b c d x) ?_ w
  have hz := noteB_size ⟨a, b, c, d, x⟩
  have hm := markB_size k f t (noteB ⟨a, b, c, d, x⟩)
  refine ⟨fun h => ?_, fun h1 => ⟨fun h => ?_, fun h2 => ⟨fun h => ?_, fun h3 => ⟨fun h => ?_, fun h4 => ⟨fun h => ?_, fun g1 => ⟨fun h => ?_, fun g2 => ⟨fun h => ?_, fun g3 => ⟨fun h => ?_, fun g4 => ⟨fun h => ?_, fun h5 => ?_⟩⟩⟩⟩⟩⟩⟩⟩⟩
  · exact seal_bad (n := ⟨a, b, c, d, x⟩) fun g => by have h := of_decide_eq_true h; have := g.1.1; simp only at this; omega
  · exact seal_bad (n := ⟨a, b, c, d, x⟩) fun g => by have h := of_decide_eq_true h; have := g.2.1.1; simp only at this; omega
  · exact seal_bad (n := ⟨a, b, c, d, x⟩) fun g => by have h := of_decide_eq_true h; have := g.2.2.1.1; simp only at this; omega
  · exact seal_bad (n := ⟨a, b, c, d, x⟩) fun g => by have h := of_decide_eq_true h; have := g.2.2.2.1; simp only at this; omega
  · exact seal_bad (n := ⟨a, b, c, d, x⟩) fun g => by have h := of_decide_eq_true h; have := g.1.2; simp only at this; omega
  · exact seal_bad (n := ⟨a, b, c, d, x⟩) fun g => by have h := of_decide_eq_true h; have := g.2.1.2; simp only at this; omega
  · exact seal_bad (n := ⟨a, b, c, d, x⟩) fun g => by have h := of_decide_eq_true h; have := g.2.2.1.2; simp only at this; omega
  · exact seal_bad (n := ⟨a, b, c, d, x⟩) fun g => by have h := of_decide_eq_true h; have := g.2.2.2.2; simp only at this; omega
  all_goals
    have h1 := of_decide_eq_false h1
    have h2 := of_decide_eq_false h2
    have h3 := of_decide_eq_false h3
    have h4 := of_decide_eq_false h4
    have g1 := of_decide_eq_false g1
    have g2 := of_decide_eq_false g2
    have g3 := of_decide_eq_false g3
    have g4 := of_decide_eq_false g4
    have hok : okN ⟨a, b, c, d, x⟩ := ⟨⟨by simp only; omega, by simp only; omega⟩, ⟨by simp only; omega, by simp only; omega⟩, ⟨by simp only; omega, by simp only; omega⟩, ⟨by simp only; omega, by simp only; omega⟩⟩
  · have h := of_decide_eq_true h
    exact seal_long (n := ⟨a, b, c, d, x⟩) hok (by show x.size > 40; omega)
  · have h5 := of_decide_eq_false h5
    have hx : x.size ≤ 40 := by omega
    have hz : (noteB ⟨a, b, c, d, x⟩).size = 22 + x.size := hz
    refine ⟨⟨by omega, by omega, by decide⟩, ⟨by omega, by omega, ?_⟩, ⟨by omega, by omega, ?_⟩, ⟨by omega, by omega, ?_⟩, ?_, ⟨hk, ?_⟩, ?_, ?_⟩
    · rw [put_sz]; decide
    · rw [put_sz, put_sz]; decide
    · rw [put_sz, put_sz, put_sz]; decide
    · rw [put_sz, put_sz, put_sz, put_sz]
      show 0 + 6 + 6 + 4 + 6 + x.size ≤ _
      omega
    · show (noteB ⟨a, b, c, d, x⟩).size ≤ _
      omega
    · show (noteB ⟨a, b, c, d, x⟩).size + (markB k f t (noteB ⟨a, b, c, d, x⟩)).size ≤ _
      omega
    · exact seal_good (n := ⟨a, b, c, d, x⟩) hok (by show ¬ x.size > 40; omega)
end Go.Proofs.YtjjnolpkifhbnaaGreat
namespace Go.Proofs.YtjjnolpkifhbnaaGreat
set_option linter.unusedVariables false
set_option linter.unusedSimpArgs false
open Go.RowKit Sym Sha Go.ChangeShapes Go.WideShapes Go.ChangeMaps

def body (s : ByteArray) : ByteArray := s.extract 0 (s.size - 16)
def openE (k : ByteArray) (f t : Int) (s : ByteArray) : Int := if s.size < 38 then 1 else if s.size > 78 then 11 else if ¬ s.extract (s.size - 16) s.size = markB k f t (body s) then 14 else if valU ((body s).extract 16 22) > 1099511627776 then 3 else 0
def openN (k : ByteArray) (f t : Int) (s : ByteArray) : Nt := if openE k f t s = 0 then ⟨valU ((body s).extract 0 6), valU ((body s).extract 6 12), valU ((body s).extract 12 16), valU ((body s).extract 16 22), (body s).extract 22 (body s).size⟩ else nt0
theorem openE_zero {k : ByteArray} {f t : Int} {s : ByteArray} : openE k f t s = 0 ↔ (38 ≤ s.size ∧ s.size ≤ 78) ∧ s.extract (s.size - 16) s.size = markB k f t (body s) ∧ valU ((body s).extract 16 22) ≤ 1099511627776 := by
  unfold openE
  by_cases h1 : s.size < 38
  · rw [if_pos h1]; constructor
    · intro h; cases h
    · intro h; omega
  rw [if_neg h1]
  by_cases h2 : s.size > 78
  · rw [if_pos h2]; constructor
    · intro h; cases h
    · intro h; omega
  rw [if_neg h2]
  by_cases h3 : s.extract (s.size - 16) s.size = markB k f t (body s)
  · rw [if_neg (fun g => g h3)]
    by_cases h4 : valU ((body s).extract 16 22) > 1099511627776
    · rw [if_pos h4]; constructor
      · intro h; cases h
      · intro h; omega
    · rw [if_neg h4]; exact ⟨fun _ => ⟨⟨by omega, by omega⟩, h3, by omega⟩, fun _ => rfl⟩
  · rw [if_pos h3]; constructor
    · intro h; cases h
    · intro h; exact (h3 h.2.1).elim
theorem ext_ba (l : List UInt8) (i j : Nat) : (ba l).extract i j = ba ((l.drop i).take (j - i)) := ba_extract l i j
theorem eq_ba (s : ByteArray) : s = ba s.data.toList := (ba_of s).symm
theorem valU_be (z : Int) (k : Nat) (hk : k ≤ 7) (h0 : 0 ≤ z) (h1 : z < 256 ^ k) : valU (ba (Oct.be (Oct.u64 z) k)) = z := by
  unfold valU
  rw [ba_data, val_be]
  have hp : (256 : Nat) ^ k ≤ 256 ^ 7 := Nat.pow_le_pow_right (by omega) hk
  have h7 : (256 : Nat) ^ 7 = 72057594037927936 := by decide
  have hz : z.toNat < 256 ^ k := by
    have : ((256 ^ k : Nat) : Int) = 256 ^ k := by simp
    omega
  have hu : Oct.u64 z = z.toNat := by unfold Oct.u64; omega
  rw [hu, Nat.mod_eq_of_lt hz]
  omega
theorem be_valU (s : ByteArray) (k : Nat) (hk : k ≤ 7) (hs : s.size = k) : Oct.be (Oct.u64 (valU s)) k = s.data.toList := by
  have hl : s.data.toList.length = k := by simpa using hs
  have hv := Oct.val_lt s.data.toList
  rw [hl] at hv
  have hp : (256 : Nat) ^ k ≤ 256 ^ 7 := Nat.pow_le_pow_right (by omega) hk
  have h7 : (256 : Nat) ^ 7 = 72057594037927936 := by decide
  have hu : Oct.u64 (valU s) = Oct.val s.data.toList := by unfold valU Oct.u64; omega
  rw [hu, ← hl]
  exact be_val _
theorem noteB_list (n : Nt) : noteB n = ba (Oct.be (Oct.u64 n.a) 6 ++ (Oct.be (Oct.u64 n.b) 6 ++ (Oct.be (Oct.u64 n.c) 4 ++ (Oct.be (Oct.u64 n.d) 6 ++ n.x.data.toList)))) := by
  apply ByteArray.ext
  apply Array.toList_inj.1
  unfold noteB
  rw [ByteArray.data_append, Array.toList_append, Oct.put_data, Oct.put_data, Oct.put_data, Oct.put_data]
  show [] ++ _ ++ _ ++ _ ++ _ ++ _ = _ ++ (_ ++ (_ ++ (_ ++ _)))
  simp only [List.nil_append, List.append_assoc]
  rfl
theorem sealE_zero {n : Nt} (h : sealE n = 0) : okN n ∧ n.x.size ≤ 40 := by
  unfold sealE at h
  by_cases h1 : okN n
  · rw [if_pos h1] at h
    by_cases h2 : n.x.size > 40
    · rw [if_pos h2] at h; cases h
    · exact ⟨h1, by omega⟩
  · rw [if_neg h1] at h; cases h
theorem ext_left (a b : ByteArray) : (a ++ b).extract 0 a.size = a := by
  rw [eq_ba a, eq_ba b, ba_append, ext_ba, ba_len, List.drop_zero, Nat.sub_zero, List.take_left]
theorem ext_right (a b : ByteArray) (n : Nat) (h : n = a.size + b.size) : (a ++ b).extract a.size n = b := by
  subst h
  rw [eq_ba a, eq_ba b, ba_append, ext_ba, ba_len, ba_len, List.drop_left, List.take_of_length_le (by omega)]
theorem drop_pre {p q : List UInt8} {n m : Nat} (h : p.length = n) : (p ++ q).drop (n + m) = q.drop m := by rw [← h, List.drop_append]; simp
theorem take_pre {p q : List UInt8} {n : Nat} (h : p.length = n) : (p ++ q).take n = p := List.take_left' h
/-- what is sealed, is opened as it was -/
theorem opens (k : ByteArray) (f t : Int) (n : Nt) (h : sealE n = 0) : openE k f t (sealS k f t n) = 0 ∧ openN k f t (sealS k f t n) = n := by
  obtain ⟨ok, hx⟩ := sealE_zero h
  have hs : sealS k f t n = noteB n ++ markB k f t (noteB n) := by unfold sealS; rw [if_pos ⟨ok, by omega⟩]
  have hz := noteB_size n
  have hm := markB_size k f t (noteB n)
  have hsz : (sealS k f t n).size = 38 + n.x.size := by rw [hs, ByteArray.size_append]; omega
  have hb : body (sealS k f t n) = noteB n := by
    unfold body
    rw [hsz, hs, show 38 + n.x.size - 16 = (noteB n).size by omega]
    exact ext_left _ _
  have he : (sealS k f t n).extract ((sealS k f t n).size - 16) (sealS k f t n).size = markB k f t (noteB n) := by
    rw [hsz, hs, show 38 + n.x.size - 16 = (noteB n).size by omega]
    exact ext_right _ _ _ (by omega)
  obtain ⟨⟨a0, a1⟩, ⟨b0, b1'⟩, ⟨c0, c1⟩, ⟨d0, d1⟩⟩ := ok
  have l6 : ∀ z : Int, (Oct.be (Oct.u64 z) 6).length = 6 := fun z => Oct.be_length _ _
  have l4 : ∀ z : Int, (Oct.be (Oct.u64 z) 4).length = 4 := fun z => Oct.be_length _ _
  have va : valU ((noteB n).extract 0 6) = n.a := by
    rw [noteB_list, ext_ba, List.drop_zero, Nat.sub_zero, take_pre (l6 _)]
    exact valU_be _ 6 (by omega) a0 (by omega)
  have vb : valU ((noteB n).extract 6 12) = n.b := by
    rw [noteB_list, ext_ba, show (6 : Nat) = 6 + 0 from rfl, drop_pre (l6 _), List.drop_zero, show 12 - (6 + 0) = 6 from rfl, take_pre (l6 _)]
    exact valU_be _ 6 (by omega) b0 (by omega)
  have vc : valU ((noteB n).extract 12 16) = n.c := by
    rw [noteB_list, ext_ba, show (12 : Nat) = 6 + (6 + 0) from rfl, drop_pre (l6 _), drop_pre (l6 _), List.drop_zero, show 16 - (6 + (6 + 0)) = 4 from rfl, take_pre (l4 _)]
    exact valU_be _ 4 (by omega) c0 (by omega)
  have vd : valU ((noteB n).extract 16 22) = n.d := by
    rw [noteB_list, ext_ba, show (16 : Nat) = 6 + (6 + (4 + 0)) from rfl, drop_pre (l6 _), drop_pre (l6 _), drop_pre (l4 _), List.drop_zero, show 22 - (6 + (6 + (4 + 0))) = 6 from rfl, take_pre (l6 _)]
    exact valU_be _ 6 (by omega) d0 (by omega)
  have vx : (noteB n).extract 22 (noteB n).size = n.x := by
    rw [hz]
    rw [noteB_list, ext_ba, show (22 : Nat) = 6 + (6 + (4 + (6 + 0))) from rfl, drop_pre (l6 _), drop_pre (l6 _), drop_pre (l4 _), drop_pre (l6 _), List.drop_zero, List.take_of_length_le (by simp), ← eq_ba]
  have e0 : openE k f t (sealS k f t n) = 0 := openE_zero.2 ⟨⟨by omega, by omega⟩, by rw [hb]; exact he, by rw [hb, vd]; omega⟩
  refine ⟨e0, ?_⟩
  unfold openN
  rw [if_pos e0, hb, va, vb, vc, vd, vx]
theorem join_list (l : List UInt8) (m : Nat) (hm : l.length ≤ m) : (l.drop 0).take (6 - 0) ++ ((l.drop 6).take (12 - 6) ++ ((l.drop 12).take (16 - 12) ++ ((l.drop 16).take (22 - 16) ++ (l.drop 22).take (m - 22)))) = l := by
  simp only [List.drop_zero, Nat.reduceSub]
  rw [List.take_of_length_le (l := l.drop 22) (by rw [List.length_drop]; omega)]
  have q : ∀ i j : Nat, (l.drop i).take j ++ l.drop (i + j) = l.drop i := fun i j => by rw [← List.drop_drop, List.take_append_drop]
  rw [q 16 6, q 12 4, q 6 6]
  exact List.take_append_drop 6 l
theorem ext_list (s : ByteArray) (i j : Nat) : (s.extract i j).data.toList = (s.data.toList.drop i).take (j - i) := by
  rw [ByteArray.data_extract, Array.toList_extract]
theorem note_of (b : ByteArray) (hb : 22 ≤ b.size) (z1 : (b.extract 0 6).size = 6) (z2 : (b.extract 6 12).size = 6) (z3 : (b.extract 12 16).size = 4) (z4 : (b.extract 16 22).size = 6) :
    noteB ⟨valU (b.extract 0 6), valU (b.extract 6 12), valU (b.extract 12 16), valU (b.extract 16 22), b.extract 22 b.size⟩ = b := by
  have e1 := be_valU _ 6 (by omega) z1
  have e2 := be_valU _ 6 (by omega) z2
  have e3 := be_valU _ 4 (by omega) z3
  have e4 := be_valU _ 6 (by omega) z4
  have key := join_list b.data.toList b.size (by simp)
  rw [noteB_list]
  show ba (Oct.be (Oct.u64 (valU (b.extract 0 6))) 6 ++ (Oct.be (Oct.u64 (valU (b.extract 6 12))) 6 ++ (Oct.be (Oct.u64 (valU (b.extract 12 16))) 4 ++ (Oct.be (Oct.u64 (valU (b.extract 16 22))) 6 ++ (b.extract 22 b.size).data.toList)))) = b
  rw [e1, e2, e3, e4, ext_list, ext_list, ext_list, ext_list, ext_list, key]
  exact ba_of b
/-- what is opened, sealed, is these bytes -/
theorem seals (k : ByteArray) (f t : Int) (s : ByteArray) (h : openE k f t s = 0) : sealS k f t (openN k f t s) = s ∧ sealE (openN k f t s) = 0 := by
  obtain ⟨⟨s0, s1⟩, hm, hd⟩ := openE_zero.1 h
  have hn : openN k f t s = ⟨valU ((body s).extract 0 6), valU ((body s).extract 6 12), valU ((body s).extract 12 16), valU ((body s).extract 16 22), (body s).extract 22 (body s).size⟩ := by unfold openN; rw [if_pos h]
  have hb : (body s).size = s.size - 16 := by unfold body; rw [ByteArray.size_extract]; omega
  have z1 : ((body s).extract 0 6).size = 6 := by rw [ByteArray.size_extract]; omega
  have z2 : ((body s).extract 6 12).size = 6 := by rw [ByteArray.size_extract]; omega
  have z3 : ((body s).extract 12 16).size = 4 := by rw [ByteArray.size_extract]; omega
  have z4 : ((body s).extract 16 22).size = 6 := by rw [ByteArray.size_extract]; omega
  have z5 : ((body s).extract 22 (body s).size).size = s.size - 38 := by rw [ByteArray.size_extract]; omega
  have lt : ∀ (e : ByteArray) (k : Nat), e.size = k → k ≤ 7 → 0 ≤ valU e ∧ valU e < ((256 ^ k : Nat) : Int) := by
    intro e k he hk
    have hl : e.data.toList.length = k := by simpa using he
    have hv := Oct.val_lt e.data.toList
    rw [hl] at hv
    unfold valU
    omega
  have v1 := lt _ 6 z1 (by omega)
  have v2 := lt _ 6 z2 (by omega)
  have v3 := lt _ 4 z3 (by omega)
  have v4 := lt _ 6 z4 (by omega)
  have p6 : ((256 ^ 6 : Nat) : Int) = 281474976710656 := by decide
  have p4 : ((256 ^ 4 : Nat) : Int) = 4294967296 := by decide
  have ok : okN (openN k f t s) := by
    rw [hn]
    exact ⟨⟨v1.1, by rw [← p6]; exact v1.2⟩, ⟨v2.1, by rw [← p6]; exact v2.2⟩, ⟨v3.1, by rw [← p4]; exact v3.2⟩, ⟨v4.1, by show valU _ < _; omega⟩⟩
  have hx : (openN k f t s).x.size ≤ 40 := by rw [hn]; show ((body s).extract 22 (body s).size).size ≤ 40; omega
  have hnote : noteB (openN k f t s) = body s := by
    rw [hn]
    exact note_of (body s) (by omega) z1 z2 z3 z4
  refine ⟨?_, ?_⟩
  · have : sealS k f t (openN k f t s) = body s ++ markB k f t (body s) := by unfold sealS; rw [if_pos ⟨ok, by omega⟩, hnote]
    rw [this, ← hm]
    unfold body
    rw [eq_ba s, ext_ba, ba_len, ext_ba, ba_append, List.drop_zero, Nat.sub_zero, List.take_of_length_le (l := List.drop _ _) (by rw [List.length_drop]; exact Nat.le_refl _), List.take_append_drop]
  · unfold sealE
    rw [if_pos ok, if_neg (by omega)]
end Go.Proofs.YtjjnolpkifhbnaaGreat
namespace Go.Proofs.YtjjnolpkifhbnaaGreat
set_option linter.unusedVariables false
set_option linter.unusedSimpArgs false
open Go.RowKit Sym Sha Go.ChangeShapes Go.WideShapes Go.ChangeMaps

def openV (k : ByteArray) (f t : Int) (s : ByteArray) : Value := .tuple #[(openN k f t s).v, .int .i64 (openE k f t s)]
theorem open_bad {k : ByteArray} {f t : Int} {s : ByteArray} {e : Int} (h : openE k f t s = e) (he : e ≠ 0) : Value.tuple #[.agg #[.int .i64 0, .int .i64 0, .int .i64 0, .int .i64 0, .string ⟨⟨[]⟩⟩], .int .i64 e] = openV k f t s := by
  unfold openV openN
  rw [if_neg (by rw [h]; exact he), h]; rfl
theorem open_good {k : ByteArray} {f t : Int} {s : ByteArray} (h : openE k f t s = 0) : Value.tuple #[.agg #[.int .i64 (valU ((body s).extract 0 6)), .int .i64 (valU ((body s).extract 6 12)), .int .i64 (valU ((body s).extract 12 16)), .int .i64 (valU ((body s).extract 16 22)), .string ((body s).extract 22 (body s).size)], .int .i64 0] = openV k f t s := by
  unfold openV openN
  rw [if_pos h, h]; rfl
theorem openE_1 {k : ByteArray} {f t : Int} {s : ByteArray} (h : s.size < 38) : openE k f t s = 1 := by unfold openE; rw [if_pos h]
theorem openE_11 {k : ByteArray} {f t : Int} {s : ByteArray} (h : s.size > 78) : openE k f t s = 11 := by unfold openE; rw [if_neg (by omega), if_pos h]
theorem openE_14 {k : ByteArray} {f t : Int} {s : ByteArray} (h0 : ¬ s.size < 38) (h1 : ¬ s.size > 78) (h : ¬ s.extract (s.size - 16) s.size = markB k f t (body s)) : openE k f t s = 14 := by unfold openE; rw [if_neg h0, if_neg h1, if_pos h]
theorem openE_3 {k : ByteArray} {f t : Int} {s : ByteArray} (h0 : ¬ s.size < 38) (h1 : ¬ s.size > 78) (h : s.extract (s.size - 16) s.size = markB k f t (body s)) (hv : valU ((body s).extract 16 22) > 1099511627776) : openE k f t s = 3 := by
  unfold openE; rw [if_neg h0, if_neg h1, if_neg (fun g => g h), if_pos hv]
theorem nat_sub16 (s : ByteArray) (h : ¬ s.size < 38) : IntKind.i64.wrap ((s.size : Int) - 16) = ((s.size - 16 : Nat) : Int) ∨ s.size > 9223372036854775807 := by
  by_cases hb : s.size > 9223372036854775807
  · exact .inr hb
  · left; rw [w64 _ (by omega) (by omega)]; omega
set_option maxRecDepth 100000 in
theorem ref16_Open (k : ByteArray) (f t : Int) (s : ByteArray) (hk : k.size ≤ 1000000000000) (hs : s.size ≤ 1000000) (w : World) : Calls Tryz.prog 35 #[.string k, .agg #[.int .i64 f, .int .i64 t], .string s] w fun e w' => e = .returned (openV k f t s) ∧ Below w.heap.size w w' := by
  refine calls_runV (CC_ok SCook2_ok) follows Tryz.func35 (by kernel_rfl) (by kernel_rfl) (noloops (by kernel_rfl)) (open16_run k f t s) ?_ w
  have hw : ¬ s.size < 38 → IntKind.i64.wrap ((s.size : Int) - 16) = ((s.size - 16 : Nat) : Int) := fun h => by rw [w64 _ (by omega) (by omega)]; omega
  refine ⟨fun h => ?_, fun h1 => ⟨fun h => ?_, fun h2 => ?_⟩⟩
  · have h := of_decide_eq_true h
    exact open_bad (openE_1 (by omega)) (by decide)
  · have h := of_decide_eq_true h
    exact open_bad (openE_11 (by omega)) (by decide)
  · have h1 := of_decide_eq_false h1
    have h2 := of_decide_eq_false h2
    have n1 : ¬ s.size < 38 := by omega
    have n2 : ¬ s.size > 78 := by omega
    rw [hw n1]
    simp only [Int.toNat_natCast]
    have hb : (body s).size = s.size - 16 := by unfold body; rw [ByteArray.size_extract]; omega
    have q : (0 : Int) ≤ ((s.size - 16 : Nat) : Int) ∧ ((s.size - 16 : Nat) : Int) ≤ s.size := by omega
    have qb : ((body s).size : Int) = (s.size : Int) - 16 := by omega
    refine ⟨⟨q.1, q.2, by omega⟩, ⟨by omega, q.1, q.2⟩, ⟨hk, ?_⟩, fun h => ?_, fun h3 => ⟨⟨by omega, q.1, q.2⟩, ⟨by first | trivial | omega, by first | trivial | omega, by first | trivial | omega, by first | trivial | omega, ?_, ?_⟩, ⟨by first | trivial | omega, by first | trivial | omega, by first | trivial | omega, by first | trivial | omega, ?_, ?_⟩, ⟨by first | trivial | omega, by first | trivial | omega, by first | trivial | omega, by first | trivial | omega, ?_, ?_⟩, ⟨by first | trivial | omega, by first | trivial | omega, by first | trivial | omega, by first | trivial | omega, ?_, ?_⟩, ⟨by first | trivial | omega, by first | trivial | omega, ?_, ?_⟩, fun h => ?_, fun h4 => ?_⟩⟩
    · show (body s).size ≤ _
      omega
    · exact open_bad (openE_14 n1 n2 (fun g => ndt h g)) (by decide)
    · show 0 + 6 ≤ ((body s).size : Int)
      omega
    · show (body s).size ≤ _
      omega
    · show 0 + 6 + 6 ≤ ((body s).size : Int)
      omega
    · show (body s).size ≤ _
      omega
    · show 0 + 6 + 6 + 4 ≤ ((body s).size : Int)
      omega
    · show (body s).size ≤ _
      omega
    · show 0 + 6 + 6 + 4 + 6 ≤ ((body s).size : Int)
      omega
    · show (body s).size ≤ _
      omega
    · show 0 + 6 + 6 + 4 + 6 ≤ ((body s).size : Int)
      omega
    · show (body s).size ≤ _
      omega
    · have h := of_decide_eq_true h
      exact open_bad (openE_3 n1 n2 (ndf h3) h) (by decide)
    · have h4 := of_decide_eq_false h4
      have h4 : ¬ valU ((body s).extract 16 22) > 1099511627776 := h4
      exact open_good (openE_zero.2 ⟨⟨by omega, by omega⟩, ndf h3, by omega⟩)
set_option maxRecDepth 100000 in
theorem cookie_Open (k : ByteArray) (f t : Int) (s : ByteArray) (hk : k.size ≤ 1000000000000) (hs : s.size ≤ 1000000) (w : World) : Calls Tryz.prog 33 #[.string k, .agg #[.int .i64 f, .int .i64 t], .string s] w fun e w' => e = .returned (openV k f t s) ∧ Below w.heap.size w w' := by
  refine calls_runV (CC_ok SCook2_ok) follows Tryz.func33 (by kernel_rfl) (by kernel_rfl) (noloops (by kernel_rfl)) (open_run k f t s) ?_ w
  have hw0 : IntKind.i64.wrap ((s.size : Int) - 16) = (s.size : Int) - 16 := w64 _ (by omega) (by omega)
  have hw : ¬ s.size < 38 → IntKind.i64.wrap ((s.size : Int) - 16) = ((s.size - 16 : Nat) : Int) := fun h => by rw [hw0]; omega
  refine ⟨fun h => ?_, fun h1 => ⟨fun h => ?_, fun h2 => ?_⟩⟩
  · have h := of_decide_eq_true h
    rw [hw0] at h
    exact open_bad (openE_1 (by omega)) (by decide)
  · have h := of_decide_eq_true h
    rw [hw0] at h
    exact open_bad (openE_11 (by omega)) (by decide)
  · have h1 := of_decide_eq_false h1
    have h2 := of_decide_eq_false h2
    rw [hw0] at h1 h2
    have n1 : ¬ s.size < 38 := by omega
    have n2 : ¬ s.size > 78 := by omega
    rw [hw n1]
    simp only [Int.toNat_natCast]
    have hb : (body s).size = s.size - 16 := by unfold body; rw [ByteArray.size_extract]; omega
    have q : (0 : Int) ≤ ((s.size - 16 : Nat) : Int) ∧ ((s.size - 16 : Nat) : Int) ≤ s.size := by omega
    have qb : ((body s).size : Int) = (s.size : Int) - 16 := by omega
    refine ⟨⟨by omega, q.1, q.2⟩, ⟨hk, ?_⟩, ⟨q.1, q.2, by omega⟩, ?_, fun h => ?_, fun h3 => ⟨⟨by omega, q.1, q.2⟩, ⟨by first | trivial | omega, by first | trivial | omega, by first | trivial | omega, by first | trivial | omega, ?_, ?_⟩, ⟨by first | trivial | omega, by first | trivial | omega, by first | trivial | omega, by first | trivial | omega, ?_, ?_⟩, ⟨by first | trivial | omega, by first | trivial | omega, by first | trivial | omega, by first | trivial | omega, ?_, ?_⟩, ⟨by first | trivial | omega, by first | trivial | omega, by first | trivial | omega, by first | trivial | omega, ?_, ?_⟩, ⟨by first | trivial | omega, by first | trivial | omega, ?_, ?_⟩, fun h => ?_, fun h4 => ?_⟩⟩
    · show (body s).size ≤ _
      omega
    · rw [markB_size]; omega
    · exact open_bad (openE_14 n1 n2 (fun g => ndt h g.symm)) (by decide)
    · show 0 + 6 ≤ ((body s).size : Int)
      omega
    · show (body s).size ≤ _
      omega
    · show 0 + 6 + 6 ≤ ((body s).size : Int)
      omega
    · show (body s).size ≤ _
      omega
    · show 0 + 6 + 6 + 4 ≤ ((body s).size : Int)
      omega
    · show (body s).size ≤ _
      omega
    · show 0 + 6 + 6 + 4 + 6 ≤ ((body s).size : Int)
      omega
    · show (body s).size ≤ _
      omega
    · show 0 + 6 + 6 + 4 + 6 ≤ ((body s).size : Int)
      omega
    · show (body s).size ≤ _
      omega
    · have h := of_decide_eq_true h
      exact open_bad (openE_3 n1 n2 (ndf h3).symm h) (by decide)
    · have h4 := of_decide_eq_false h4
      have h4 : ¬ valU ((body s).extract 16 22) > 1099511627776 := h4
      exact open_good (openE_zero.2 ⟨⟨by omega, by omega⟩, (ndf h3).symm, by omega⟩)
end Go.Proofs.YtjjnolpkifhbnaaGreat

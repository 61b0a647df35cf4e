/- Cookies: what is sealed is opened, and back: plain. No conditions. -/
import Derived.Test.YtapogkodlempkaaCookC
namespace Go.Proofs.Ytapogkodlempkaa
set_option linter.unusedVariables false
set_option linter.unusedSimpArgs false
open Go.RowKit Sym Sha Go.ChangeShapes Go.WideShapes Go.ChangeMaps

def body (s : ByteArray) : ByteArray := s.extract 0 (s.size - 16)
def openE (k : ByteArray) (f t : Int) (s : ByteArray) : Int := if s.size < 38 then 1 else if s.size > 78 then 11 else if ¬ s.extract (s.size - 16) s.size = markB k f t (body s) then 14 else if valU ((body s).extract 16 22) > 1099511627776 then 3 else 0
def openN (k : ByteArray) (f t : Int) (s : ByteArray) : Nt := if openE k f t s = 0 then ⟨valU ((body s).extract 0 6), valU ((body s).extract 6 12), valU ((body s).extract 12 16), valU ((body s).extract 16 22), (body s).extract 22 (body s).size⟩ else nt0
theorem openE_zero {k : ByteArray} {f t : Int} {s : ByteArray} : openE k f t s = 0 ↔ (38 ≤ s.size ∧ s.size ≤ 78) ∧ s.extract (s.size - 16) s.size = markB k f t (body s) ∧ valU ((body s).extract 16 22) ≤ 1099511627776 := by
  unfold openE
  by_cases h1 : s.size < 38
  · rw [if_pos h1]; constructor
    · intro h; cases h
    · intro h; omega
  rw [if_neg h1]
  by_cases h2 : s.size > 78
  · rw [if_pos h2]; constructor
    · intro h; cases h
    · intro h; omega
  rw [if_neg h2]
  by_cases h3 : s.extract (s.size - 16) s.size = markB k f t (body s)
  · rw [if_neg (fun g => g h3)]
    by_cases h4 : valU ((body s).extract 16 22) > 1099511627776
    · rw [if_pos h4]; constructor
      · intro h; cases h
      · intro h; omega
    · rw [if_neg h4]; exact ⟨fun _ => ⟨⟨by omega, by omega⟩, h3, by omega⟩, fun _ => rfl⟩
  · rw [if_pos h3]; constructor
    · intro h; cases h
    · intro h; exact (h3 h.2.1).elim
theorem ext_ba (l : List UInt8) (i j : Nat) : (ba l).extract i j = ba ((l.drop i).take (j - i)) := ba_extract l i j
theorem eq_ba (s : ByteArray) : s = ba s.data.toList := (ba_of s).symm
theorem valU_be (z : Int) (k : Nat) (hk : k ≤ 7) (h0 : 0 ≤ z) (h1 : z < 256 ^ k) : valU (ba (Oct.be (Oct.u64 z) k)) = z := by
  unfold valU
  rw [ba_data, val_be]
  have hp : (256 : Nat) ^ k ≤ 256 ^ 7 := Nat.pow_le_pow_right (by omega) hk
  have h7 : (256 : Nat) ^ 7 = 72057594037927936 := by decide
  have hz : z.toNat < 256 ^ k := by
    have : ((256 ^ k : Nat) : Int) = 256 ^ k := by simp
    omega
  have hu : Oct.u64 z = z.toNat := by unfold Oct.u64; omega
  rw [hu, Nat.mod_eq_of_lt hz]
  omega
theorem be_valU (s : ByteArray) (k : Nat) (hk : k ≤ 7) (hs : s.size = k) : Oct.be (Oct.u64 (valU s)) k = s.data.toList := by
  have hl : s.data.toList.length = k := by simpa using hs
  have hv := Oct.val_lt s.data.toList
  rw [hl] at hv
  have hp : (256 : Nat) ^ k ≤ 256 ^ 7 := Nat.pow_le_pow_right (by omega) hk
  have h7 : (256 : Nat) ^ 7 = 72057594037927936 := by decide
  have hu : Oct.u64 (valU s) = Oct.val s.data.toList := by unfold valU Oct.u64; omega
  rw [hu, ← hl]
  exact be_val _
theorem noteB_list (n : Nt) : noteB n = ba (Oct.be (Oct.u64 n.a) 6 ++ (Oct.be (Oct.u64 n.b) 6 ++ (Oct.be (Oct.u64 n.c) 4 ++ (Oct.be (Oct.u64 n.d) 6 ++ n.x.data.toList)))) := by
  apply ByteArray.ext
  apply Array.toList_inj.1
  unfold noteB
  rw [ByteArray.data_append, Array.toList_append, Oct.put_data, Oct.put_data, Oct.put_data, Oct.put_data]
  show [] ++ _ ++ _ ++ _ ++ _ ++ _ = _ ++ (_ ++ (_ ++ (_ ++ _)))
  simp only [List.nil_append, List.append_assoc]
  rfl
theorem sealE_zero {n : Nt} (h : sealE n = 0) : okN n ∧ n.x.size ≤ 40 := by
  unfold sealE at h
  by_cases h1 : okN n
  · rw [if_pos h1] at h
    by_cases h2 : n.x.size > 40
    · rw [if_pos h2] at h; cases h
    · exact ⟨h1, by omega⟩
  · rw [if_neg h1] at h; cases h
theorem ext_left (a b : ByteArray) : (a ++ b).extract 0 a.size = a := by
  rw [eq_ba a, eq_ba b, ba_append, ext_ba, ba_len, List.drop_zero, Nat.sub_zero, List.take_left]
theorem ext_right (a b : ByteArray) (n : Nat) (h : n = a.size + b.size) : (a ++ b).extract a.size n = b := by
  subst h
  rw [eq_ba a, eq_ba b, ba_append, ext_ba, ba_len, ba_len, List.drop_left, List.take_of_length_le (by omega)]
theorem drop_pre {p q : List UInt8} {n m : Nat} (h : p.length = n) : (p ++ q).drop (n + m) = q.drop m := by rw [← h, List.drop_append]; simp
theorem take_pre {p q : List UInt8} {n : Nat} (h : p.length = n) : (p ++ q).take n = p := List.take_left' h
/-- what is sealed, is opened as it was -/
theorem opens (k : ByteArray) (f t : Int) (n : Nt) (h : sealE n = 0) : openE k f t (sealS k f t n) = 0 ∧ openN k f t (sealS k f t n) = n := by
  obtain ⟨ok, hx⟩ := sealE_zero h
  have hs : sealS k f t n = noteB n ++ markB k f t (noteB n) := by unfold sealS; rw [if_pos ⟨ok, by omega⟩]
  have hz := noteB_size n
  have hm := markB_size k f t (noteB n)
  have hsz : (sealS k f t n).size = 38 + n.x.size := by rw [hs, ByteArray.size_append]; omega
  have hb : body (sealS k f t n) = noteB n := by
    unfold body
    rw [hsz, hs, show 38 + n.x.size - 16 = (noteB n).size by omega]
    exact ext_left _ _
  have he : (sealS k f t n).extract ((sealS k f t n).size - 16) (sealS k f t n).size = markB k f t (noteB n) := by
    rw [hsz, hs, show 38 + n.x.size - 16 = (noteB n).size by omega]
    exact ext_right _ _ _ (by omega)
  obtain ⟨⟨a0, a1⟩, ⟨b0, b1'⟩, ⟨c0, c1⟩, ⟨d0, d1⟩⟩ := ok
  have l6 : ∀ z : Int, (Oct.be (Oct.u64 z) 6).length = 6 := fun z => Oct.be_length _ _
  have l4 : ∀ z : Int, (Oct.be (Oct.u64 z) 4).length = 4 := fun z => Oct.be_length _ _
  have va : valU ((noteB n).extract 0 6) = n.a := by
    rw [noteB_list, ext_ba, List.drop_zero, Nat.sub_zero, take_pre (l6 _)]
    exact valU_be _ 6 (by omega) a0 (by omega)
  have vb : valU ((noteB n).extract 6 12) = n.b := by
    rw [noteB_list, ext_ba, show (6 : Nat) = 6 + 0 from rfl, drop_pre (l6 _), List.drop_zero, show 12 - (6 + 0) = 6 from rfl, take_pre (l6 _)]
    exact valU_be _ 6 (by omega) b0 (by omega)
  have vc : valU ((noteB n).extract 12 16) = n.c := by
    rw [noteB_list, ext_ba, show (12 : Nat) = 6 + (6 + 0) from rfl, drop_pre (l6 _), drop_pre (l6 _), List.drop_zero, show 16 - (6 + (6 + 0)) = 4 from rfl, take_pre (l4 _)]
    exact valU_be _ 4 (by omega) c0 (by omega)
  have vd : valU ((noteB n).extract 16 22) = n.d := by
    rw [noteB_list, ext_ba, show (16 : Nat) = 6 + (6 + (4 + 0)) from rfl, drop_pre (l6 _), drop_pre (l6 _), drop_pre (l4 _), List.drop_zero, show 22 - (6 + (6 + (4 + 0))) = 6 from rfl, take_pre (l6 _)]
    exact valU_be _ 6 (by omega) d0 (by omega)
  have vx : (noteB n).extract 22 (noteB n).size = n.x := by
    rw [hz]
    rw [noteB_list, ext_ba, show (22 : Nat) = 6 + (6 + (4 + (6 + 0))) from rfl, drop_pre (l6 _), drop_pre (l6 _), drop_pre (l4 _), drop_pre (l6 _), List.drop_zero, List.take_of_length_le (by simp), ← eq_ba]
  have e0 : openE k f t (sealS k f t n) = 0 := openE_zero.2 ⟨⟨by omega, by omega⟩, by rw [hb]; exact he, by rw [hb, vd]; omega⟩
  refine ⟨e0, ?_⟩
  unfold openN
  rw [if_pos e0, hb, va, vb, vc, vd, vx]
theorem join_list (l : List UInt8) (m : Nat) (hm : l.length ≤ m) : (l.drop 0).take (6 - 0) ++ ((l.drop 6).take (12 - 6) ++ ((l.drop 12).take (16 - 12) ++ ((l.drop 16).take (22 - 16) ++ (l.drop 22).take (m - 22)))) = l := by
  simp only [List.drop_zero, Nat.reduceSub]
  rw [List.take_of_length_le (l := l.drop 22) (by rw [List.length_drop]; omega)]
  have q : ∀ i j : Nat, (l.drop i).take j ++ l.drop (i + j) = l.drop i := fun i j => by rw [← List.drop_drop, List.take_append_drop]
  rw [q 16 6, q 12 4, q 6 6]
  exact List.take_append_drop 6 l
theorem ext_list (s : ByteArray) (i j : Nat) : (s.extract i j).data.toList = (s.data.toList.drop i).take (j - i) := by
  rw [ByteArray.data_extract, Array.toList_extract]
theorem note_of (b : ByteArray) (hb : 22 ≤ b.size) (z1 : (b.extract 0 6).size = 6) (z2 : (b.extract 6 12).size = 6) (z3 : (b.extract 12 16).size = 4) (z4 : (b.extract 16 22).size = 6) :
    noteB ⟨valU (b.extract 0 6), valU (b.extract 6 12), valU (b.extract 12 16), valU (b.extract 16 22), b.extract 22 b.size⟩ = b := by
  have e1 := be_valU _ 6 (by omega) z1
  have e2 := be_valU _ 6 (by omega) z2
  have e3 := be_valU _ 4 (by omega) z3
  have e4 := be_valU _ 6 (by omega) z4
  have key := join_list b.data.toList b.size (by simp)
  rw [noteB_list]
  show ba (Oct.be (Oct.u64 (valU (b.extract 0 6))) 6 ++ (Oct.be (Oct.u64 (valU (b.extract 6 12))) 6 ++ (Oct.be (Oct.u64 (valU (b.extract 12 16))) 4 ++ (Oct.be (Oct.u64 (valU (b.extract 16 22))) 6 ++ (b.extract 22 b.size).data.toList)))) = b
  rw [e1, e2, e3, e4, ext_list, ext_list, ext_list, ext_list, ext_list, key]
  exact ba_of b
/-- what is opened, sealed, is these bytes -/
theorem seals (k : ByteArray) (f t : Int) (s : ByteArray) (h : openE k f t s = 0) : sealS k f t (openN k f t s) = s ∧ sealE (openN k f t s) = 0 := by
  obtain ⟨⟨s0, s1⟩, hm, hd⟩ := openE_zero.1 h
  have hn : openN k f t s = ⟨valU ((body s).extract 0 6), valU ((body s).extract 6 12), valU ((body s).extract 12 16), valU ((body s).extract 16 22), (body s).extract 22 (body s).size⟩ := by unfold openN; rw [if_pos h]
  have hb : (body s).size = s.size - 16 := by unfold body; rw [ByteArray.size_extract]; omega
  have z1 : ((body s).extract 0 6).size = 6 := by rw [ByteArray.size_extract]; omega
  have z2 : ((body s).extract 6 12).size = 6 := by rw [ByteArray.size_extract]; omega
  have z3 : ((body s).extract 12 16).size = 4 := by rw [ByteArray.size_extract]; omega
  have z4 : ((body s).extract 16 22).size = 6 := by rw [ByteArray.size_extract]; omega
  have z5 : ((body s).extract 22 (body s).size).size = s.size - 38 := by rw [ByteArray.size_extract]; omega
  have lt : ∀ (e : ByteArray) (k : Nat), e.size = k → k ≤ 7 → 0 ≤ valU e ∧ valU e < ((256 ^ k : Nat) : Int) := by
    intro e k he hk
    have hl : e.data.toList.length = k := by simpa using he
    have hv := Oct.val_lt e.data.toList
    rw [hl] at hv
    unfold valU
    omega
  have v1 := lt _ 6 z1 (by omega)
  have v2 := lt _ 6 z2 (by omega)
  have v3 := lt _ 4 z3 (by omega)
  have v4 := lt _ 6 z4 (by omega)
  have p6 : ((256 ^ 6 : Nat) : Int) = 281474976710656 := by decide
  have p4 : ((256 ^ 4 : Nat) : Int) = 4294967296 := by decide
  have ok : okN (openN k f t s) := by
    rw [hn]
    exact ⟨⟨v1.1, by rw [← p6]; exact v1.2⟩, ⟨v2.1, by rw [← p6]; exact v2.2⟩, ⟨v3.1, by rw [← p4]; exact v3.2⟩, ⟨v4.1, by show valU _ < _; omega⟩⟩
  have hx : (openN k f t s).x.size ≤ 40 := by rw [hn]; show ((body s).extract 22 (body s).size).size ≤ 40; omega
  have hnote : noteB (openN k f t s) = body s := by
    rw [hn]
    exact note_of (body s) (by omega) z1 z2 z3 z4
  refine ⟨?_, ?_⟩
  · have : sealS k f t (openN k f t s) = body s ++ markB k f t (body s) := by unfold sealS; rw [if_pos ⟨ok, by omega⟩, hnote]
    rw [this, ← hm]
    unfold body
    rw [eq_ba s, ext_ba, ba_len, ext_ba, ba_append, List.drop_zero, Nat.sub_zero, List.take_of_length_le (l := List.drop _ _) (by rw [List.length_drop]; exact Nat.le_refl _), List.take_append_drop]
  · unfold sealE
    rw [if_pos ok, if_neg (by omega)]
end Go.Proofs.Ytapogkodlempkaa

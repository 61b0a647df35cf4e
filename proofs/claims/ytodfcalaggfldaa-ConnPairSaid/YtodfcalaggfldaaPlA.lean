/- The sum of bytes, in plain words: blocks, rounds, pieces. No conditions. -/
import Derived.Test.YtodfcalaggfldaaSymD
import Derived.Test.YtodfcalaggfldaaPlOct
namespace Go.Proofs.Ytodfcalaggfldaa
set_option linter.unusedVariables false
set_option linter.unusedSimpArgs false
open Go.RowKit Sym

namespace Sha
set_option linter.unusedVariables false
set_option linter.unusedSimpArgs false
def w32 (z : Int) : Int := IntKind.u32.wrap z
/-- a number of 32 bits turned round to the lower end -/
def rorN (x : Int) (n : Nat) : Int := IntKind.u32.wrap (((x.fdiv ((2 ^ n : Nat) : Int) % 4294967296).toNat ||| (IntKind.u32.wrap (x * ((2 ^ (32 - n) : Nat) : Int)) % 4294967296).toNat : Nat) : Int)
def xor (a b : Int) : Int := IntKind.u32.wrap (((a % 4294967296).toNat ^^^ (b % 4294967296).toNat : Nat) : Int)
def and (a b : Int) : Int := IntKind.u32.wrap (((a % 4294967296).toNat &&& (b % 4294967296).toNat : Nat) : Int)
def not (a : Int) : Int := xor 4294967295 a
def low (x : Int) : Int := xor (xor (rorN x 7) (rorN x 18)) (x.fdiv 8)
def high (x : Int) : Int := xor (xor (rorN x 17) (rorN x 19)) (x.fdiv 1024)
def nxt (w16 w15 w7 w2 : Int) : Int := w32 (w32 (w32 (w16 + low w15) + w7) + high w2)
/-- the numbers of a block's rounds, the first of which m tells -/
def schedL (m : Nat → Int) : Nat → List Int
  | 0 => []
  | i + 1 => schedL m i ++ [if i < 16 then m i else nxt (nth (schedL m i) (i - 16)) (nth (schedL m i) (i - 15)) (nth (schedL m i) (i - 7)) (nth (schedL m i) (i - 2))]
theorem schedL_length (m : Nat → Int) : ∀ i, (schedL m i).length = i
  | 0 => rfl
  | i + 1 => by simp [schedL, schedL_length m i]
theorem schedL_nth (m : Nat → Int) : ∀ (i j : Nat), j < i → nth (schedL m i) j = nth (schedL m (j + 1)) j
  | 0, _, h => by omega
  | i + 1, j, h => by
    by_cases e : j = i
    · subst e; rfl
    · rw [← schedL_nth m i j (by omega)]
      unfold nth
      show (schedL m i ++ _).getD j 0 = _
      rw [List.getD_eq_getElem?_getD, List.getD_eq_getElem?_getD, List.getElem?_append_left (by rw [schedL_length]; omega)]
theorem schedL_last (m : Nat → Int) (i : Nat) : nth (schedL m (i + 1)) i = if i < 16 then m i else nxt (nth (schedL m i) (i - 16)) (nth (schedL m i) (i - 15)) (nth (schedL m i) (i - 7)) (nth (schedL m i) (i - 2)) := by
  unfold nth
  show (schedL m i ++ _).getD i 0 = _
  rw [List.getD_eq_getElem?_getD, List.getElem?_append_right (by rw [schedL_length]; omega), schedL_length]
  simp [nth]
theorem schedL_congr {m m' : Nat → Int} (h : ∀ i, i < 16 → m i = m' i) : ∀ i, schedL m i = schedL m' i
  | 0 => rfl
  | i + 1 => by
    simp only [schedL, schedL_congr h i]
    by_cases e : i < 16
    · simp [e, h i e]
    · simp [e]
/-- the state between blocks -/
structure H8 where
  a : Int
  b : Int
  c : Int
  d : Int
  e : Int
  f : Int
  g : Int
  h : Int
deriving DecidableEq
def Kt : List Int := [1116352408, 1899447441, 3049323471, 3921009573, 961987163, 1508970993, 2453635748, 2870763221, 3624381080, 310598401, 607225278, 1426881987, 1925078388, 2162078206, 2614888103, 3248222580, 3835390401, 4022224774, 264347078, 604807628, 770255983, 1249150122, 1555081692, 1996064986, 2554220882, 2821834349, 2952996808, 3210313671, 3336571891, 3584528711, 113926993, 338241895, 666307205, 773529912, 1294757372, 1396182291, 1695183700, 1986661051, 2177026350, 2456956037, 2730485921, 2820302411, 3259730800, 3345764771, 3516065817, 3600352804, 4094571909, 275423344, 430227734, 506948616, 659060556, 883997877, 958139571, 1322822218, 1537002063, 1747873779, 1955562222, 2024104815, 2227730452, 2361852424, 2428436474, 2756734187, 3204031479, 3329325298]
def H0 : H8 := ⟨1779033703, 3144134277, 1013904242, 2773480762, 1359893119, 2600822924, 528734635, 1541459225⟩
def one (v : H8) (k w : Int) : Int := w32 (w32 (w32 (w32 (v.h + xor (xor (rorN v.e 6) (rorN v.e 11)) (rorN v.e 25)) + xor (and v.e v.f) (and (not v.e) v.g)) + k) + w)
def two (v : H8) : Int := w32 (xor (xor (rorN v.a 2) (rorN v.a 13)) (rorN v.a 22) + xor (xor (and v.a v.b) (and v.a v.c)) (and v.b v.c))
def rnd (v : H8) (k w : Int) : H8 := ⟨w32 (one v k w + two v), v.a, v.b, v.c, w32 (v.d + one v k w), v.e, v.f, v.g⟩
def rnds (ws : List Int) : Nat → H8 → H8
  | 0, v => v
  | i + 1, v => rnd (rnds ws i v) (nth Kt i) (nth ws i)
def addH (v h : H8) : H8 := ⟨w32 (v.a + h.a), w32 (v.b + h.b), w32 (v.c + h.c), w32 (v.d + h.d), w32 (v.e + h.e), w32 (v.f + h.f), w32 (v.g + h.g), w32 (v.h + h.h)⟩
def word (l : List UInt8) (i : Nat) : Int := ((Oct.val ((l.drop (4 * i)).take 4) : Nat) : Int)
def sched (l : List UInt8) : List Int := schedL (word l) 64
/-- the state behind a block -/
def blockH (h : H8) (l : List UInt8) : H8 := addH (rnds (sched l) 64 h) h
def foldB : Nat → H8 → List UInt8 → H8
  | 0, h, _ => h
  | n + 1, h, l => foldB n (blockH h (l.take 64)) (l.drop 64)
def txt (h : H8) : List UInt8 := Oct.be (Oct.u64 h.a) 4 ++ Oct.be (Oct.u64 h.b) 4 ++ Oct.be (Oct.u64 h.c) 4 ++ Oct.be (Oct.u64 h.d) 4 ++ Oct.be (Oct.u64 h.e) 4 ++ Oct.be (Oct.u64 h.f) 4 ++ Oct.be (Oct.u64 h.g) 4 ++ Oct.be (Oct.u64 h.h) 4
/-- whole blocks from the front -/
def foldA (h : H8) (l : List UInt8) : H8 := foldB (l.length / 64) h l
def restA (l : List UInt8) : List UInt8 := l.drop (64 * (l.length / 64))
/-- what stands behind the bytes: r of them since the last block, n in all -/
def tail (r n : Nat) : List UInt8 := 128 :: (List.replicate ((119 - r % 64) % 64) 0 ++ Oct.be (8 * n % 18446744073709551616) 8)
def shaL (s : List UInt8) : List UInt8 := txt (foldA H0 (s ++ tail s.length s.length))
theorem foldB_add (m n : Nat) : ∀ (h : H8) (l : List UInt8), foldB (m + n) h l = foldB n (foldB m h l) (l.drop (64 * m)) := by
  induction m with
  | zero => intro h l; simp [foldB]
  | succ m ih =>
    intro h l
    rw [show m + 1 + n = (m + n) + 1 by omega]
    simp only [foldB]
    rw [ih]
    congr 1
    rw [List.drop_drop]
    congr 1; omega
theorem foldB_front (n : Nat) : ∀ (h : H8) (l r : List UInt8), 64 * n ≤ l.length → foldB n h (l ++ r) = foldB n h l := by
  induction n with
  | zero => intros; rfl
  | succ n ih =>
    intro h l r hl
    simp only [foldB]
    rw [List.take_append_of_le_length (by omega), List.drop_append_of_le_length (by omega), ih _ _ _ (by rw [List.length_drop]; omega)]
theorem restA_length (l : List UInt8) : (restA l).length = l.length % 64 := by
  unfold restA; rw [List.length_drop]; omega
/-- in pieces as whole -/
theorem foldA_append (h : H8) (l r : List UInt8) : foldA (foldA h l) (restA l ++ r) = foldA h (l ++ r) := by
  unfold foldA
  have e : (l ++ r).length / 64 = l.length / 64 + (restA l ++ r).length / 64 := by
    rw [List.length_append, List.length_append, restA_length]; omega
  rw [e, foldB_add, foldB_front (l.length / 64) h l r (by omega), List.drop_append_of_le_length (by omega)]
  rfl
theorem restA_append (l r : List UInt8) : restA (restA l ++ r) = restA (l ++ r) := by
  have e : (l ++ r).length / 64 = l.length / 64 + (restA l ++ r).length / 64 := by
    rw [List.length_append, List.length_append, restA_length]; omega
  have : restA l ++ r = (l ++ r).drop (64 * (l.length / 64)) := by
    rw [List.drop_append_of_le_length (by omega)]; rfl
  unfold restA at *
  rw [this] at e ⊢
  rw [List.drop_drop]
  congr 1; omega
/-- the sum of what came in pieces -/
theorem sum_pieces (s : List UInt8) : txt (foldA (foldA H0 s) (restA s ++ tail (restA s).length s.length)) = shaL s := by
  rw [foldA_append]
  unfold shaL tail
  rw [restA_length, Nat.mod_mod]
theorem txt_length (h : H8) : (txt h).length = 32 := by simp [txt, Oct.be_length]
theorem shaL_length (s : List UInt8) : (shaL s).length = 32 := txt_length _
def abc : List UInt8 := [97, 98, 99]
theorem sha_abc : shaL abc = [186, 120, 22, 191, 143, 1, 207, 234, 65, 65, 64, 222, 93, 174, 34, 35, 176, 3, 97, 163, 150, 23, 122, 156, 180, 16, 255, 97, 242, 0, 21, 173] := by decide +kernel
end Sha
/-- bytes as a text -/
def ba (l : List UInt8) : ByteArray := ⟨l.toArray⟩
theorem ba_data (l : List UInt8) : (ba l).data.toList = l := rfl
theorem ba_len (l : List UInt8) : (ba l).size = l.length := by show l.toArray.size = _; simp
theorem ba_of (s : ByteArray) : ba s.data.toList = s := by cases s; rfl
theorem ba_append (a b : List UInt8) : ba a ++ ba b = ba (a ++ b) := by
  apply ByteArray.ext
  rw [ByteArray.data_append]
  simp [ba]
theorem ba_extract (l : List UInt8) (a b : Nat) : (ba l).extract a b = ba ((l.drop a).take (b - a)) := by
  apply ByteArray.ext
  apply Array.toList_inj.1
  rw [ByteArray.data_extract, Array.toList_extract]
  simp [ba, List.extract_eq_take_drop]
theorem ba_inj {a b : List UInt8} : ba a = ba b ↔ a = b := ⟨fun h => congrArg (fun s : ByteArray => s.data.toList) h, fun h => by rw [h]⟩
def shaOf (s : ByteArray) : ByteArray := ⟨(Sha.shaL s.data.toList).toArray⟩
theorem shaOf_size (s : ByteArray) : (shaOf s).size = 32 := by
  show (Sha.shaL s.data.toList).toArray.size = 32
  simp [Sha.shaL_length]
end Go.Proofs.Ytodfcalaggfldaa
namespace Go.Proofs.Ytodfcalaggfldaa
set_option linter.unusedVariables false
set_option linter.unusedSimpArgs false
open Go.RowKit Sym

namespace Mac
set_option linter.unusedVariables false
set_option linter.unusedSimpArgs false
/-- each byte turned by n -/
def turn (n : UInt8) (l : List UInt8) : List UInt8 := l.map (· ^^^ n)
/-- the key of 64 bytes -/
def key64 (key : List UInt8) : List UInt8 :=
  let k := if 64 < key.length then Sha.shaL key else key
  k ++ List.replicate (64 - k.length) 0
def macL (key all : List UInt8) : List UInt8 := Sha.shaL (turn 92 (key64 key) ++ Sha.shaL (turn 54 (key64 key) ++ all))
theorem key64_length (key : List UInt8) : (key64 key).length = 64 := by
  unfold key64
  by_cases h : 64 < key.length
  · simp [h, Sha.shaL_length]
  · simp [h]; omega
theorem macL_length (key all : List UInt8) : (macL key all).length = 32 := Sha.shaL_length _
/-- bytes 0 behind a short key change nothing -/
theorem key64_zeros (key : List UInt8) (n : Nat) (h : key.length + n ≤ 64) : key64 (key ++ List.replicate n 0) = key64 key := by
  unfold key64
  have h1 : ¬ 64 < key.length := by omega
  have h2 : ¬ 64 < (key ++ List.replicate n (0 : UInt8)).length := by simp; omega
  simp only [if_neg h1, if_neg h2]
  rw [List.append_assoc, List.replicate_append_replicate, List.length_append, List.length_replicate]
  congr 2
  omega
def jefe : List UInt8 := [74, 101, 102, 101]
def want : List UInt8 := [119, 104, 97, 116, 32, 100, 111, 32, 121, 97, 32, 119, 97, 110, 116, 32, 102, 111, 114, 32, 110, 111, 116, 104, 105, 110, 103, 63]
theorem mac_jefe : macL jefe want = [91, 220, 193, 70, 191, 96, 117, 78, 106, 4, 36, 38, 8, 149, 117, 199, 90, 0, 63, 8, 157, 39, 57, 131, 157, 236, 88, 185, 100, 236, 56, 67] := by decide +kernel
end Mac
def macOf (key all : ByteArray) : ByteArray := ⟨(Mac.macL key.data.toList all.data.toList).toArray⟩
theorem macOf_size (key all : ByteArray) : (macOf key all).size = 32 := by
  show (Mac.macL key.data.toList all.data.toList).toArray.size = 32
  simp [Mac.macL_length]
end Go.Proofs.Ytodfcalaggfldaa
namespace Go.Proofs.Ytodfcalaggfldaa
set_option linter.unusedVariables false
set_option linter.unusedSimpArgs false
open Go.RowKit Sym

/-- the first place from i on, of k, where p holds; i + k if there is none -/
def firstOf (p : Nat → Bool) : Nat → Nat → Nat
  | 0, i => i
  | k + 1, i => bif p i then i else firstOf p k (i + 1)
theorem firstOf_spec (p : Nat → Bool) : ∀ k i, i ≤ firstOf p k i ∧ firstOf p k i ≤ i + k ∧ (∀ j, i ≤ j → j < firstOf p k i → p j = false) ∧ (firstOf p k i < i + k → p (firstOf p k i) = true)
  | 0, i => ⟨Nat.le_refl _, Nat.le_refl _, fun j h1 h2 => by simp only [firstOf] at h2; omega, fun h => by simp only [firstOf] at h; omega⟩
  | k + 1, i => by
    cases hb : p i
    · have e : firstOf p (k + 1) i = firstOf p k (i + 1) := by simp only [firstOf, hb, cond_false]
      obtain ⟨h1, h2, h3, h4⟩ := firstOf_spec p k (i + 1)
      rw [e]
      refine ⟨by omega, by omega, fun j h5 h6 => ?_, fun h => h4 (by omega)⟩
      by_cases ej : j = i
      · subst ej; exact hb
      · exact h3 j (by omega) h6
    · have e : firstOf p (k + 1) i = i := by simp only [firstOf, hb, cond_true]
      rw [e]
      exact ⟨Nat.le_refl _, by omega, fun j h5 h6 => by omega, fun _ => hb⟩
/-- the first n texts, one behind the other -/
def catR (g : Nat → ByteArray) : Nat → ByteArray
  | 0 => ⟨⟨[]⟩⟩
  | n + 1 => catR g n ++ g n
theorem catR_mono (g : Nat → ByteArray) {i n : Nat} (h : i ≤ n) : (catR g i).size ≤ (catR g n).size := by
  induction n with
  | zero => obtain rfl : i = 0 := by omega
            exact Nat.le_refl _
  | succ n ih =>
    by_cases e : i = n + 1
    · subst e; exact Nat.le_refl _
    · have := ih (by omega)
      show _ ≤ (catR g n ++ g n).size
      rw [ByteArray.size_append]; omega
theorem catR_congr {g h : Nat → ByteArray} : ∀ {n : Nat}, (∀ i, i < n → g i = h i) → catR g n = catR h n
  | 0, _ => rfl
  | n + 1, e => by
    show catR g n ++ g n = catR h n ++ h n
    rw [catR_congr (fun i hi => e i (by omega)), e n (by omega)]
end Go.Proofs.Ytodfcalaggfldaa
namespace Go.Proofs.Ytodfcalaggfldaa
set_option linter.unusedVariables false
set_option linter.unusedSimpArgs false
open Go.RowKit Sym

theorem foldl_be (k : Nat) : ∀ (a u : Nat), (Oct.be u k).foldl (fun n b => 256 * n + b.toNat) a = a * 256 ^ k + u % 256 ^ k := by
  induction k with
  | zero => intro a u; simp [Oct.be, Nat.mod_one]
  | succ k ih =>
    intro a u
    show (Oct.be u k).foldl _ (256 * a + (UInt8.ofNat (u / 256 ^ k)).toNat) = _
    have e : (UInt8.ofNat (u / 256 ^ k)).toNat = u / 256 ^ k % 256 := by rw [UInt8.toNat_ofNat']
    have e2 : u % 256 ^ (k + 1) = u % 256 ^ k + 256 ^ k * (u / 256 ^ k % 256) := by rw [Nat.pow_succ, Nat.mod_mul]
    have e3 : 256 * a * 256 ^ k = a * 256 ^ (k + 1) := by rw [Nat.pow_succ, Nat.mul_comm 256 a, Nat.mul_assoc, Nat.mul_comm 256]
    rw [ih, e, e2, Nat.add_mul, e3, Nat.mul_comm (u / 256 ^ k % 256)]
    omega
theorem val_be (u k : Nat) : Oct.val (Oct.be u k) = u % 256 ^ k := by
  unfold Oct.val
  rw [foldl_be, Nat.zero_mul, Nat.zero_add]
theorem be_mod (u k : Nat) : ∀ j, j ≤ k → Oct.be (u % 256 ^ k) j = Oct.be u j
  | 0, _ => rfl
  | j + 1, h => by
    show UInt8.ofNat (u % 256 ^ k / 256 ^ j) :: _ = UInt8.ofNat (u / 256 ^ j) :: _
    rw [be_mod u k j (by omega)]
    congr 1
    apply UInt8.toNat.inj
    rw [UInt8.toNat_ofNat', UInt8.toNat_ofNat']
    obtain ⟨d, rfl⟩ : ∃ d, k = j + 1 + d := ⟨k - (j + 1), by omega⟩
    rw [show (2 : Nat) ^ 8 = 256 from rfl, Nat.pow_add, Nat.pow_succ, Nat.mul_assoc, Nat.mod_mul_right_div_self, Nat.mod_mul_right_mod]
theorem foldl_val : ∀ (l : List UInt8) (a : Nat), l.foldl (fun n b => 256 * n + b.toNat) a = a * 256 ^ l.length + Oct.val l
  | [], a => by simp [Oct.val]
  | x :: l, a => by
    show l.foldl _ (256 * a + x.toNat) = _ * 256 ^ (l.length + 1) + l.foldl _ (256 * 0 + x.toNat)
    rw [foldl_val l, foldl_val l, Nat.pow_succ, Nat.add_mul, Nat.add_mul, show 256 * a * 256 ^ l.length = a * (256 ^ l.length * 256) by rw [Nat.mul_comm 256 a, Nat.mul_assoc, Nat.mul_comm 256]]
    omega
theorem be_val : ∀ l : List UInt8, Oct.be (Oct.val l) l.length = l
  | [] => rfl
  | x :: l => by
    have hv := Oct.val_lt l
    have hx := x.toNat_lt
    have e : Oct.val (x :: l) = x.toNat * 256 ^ l.length + Oct.val l := by
      show l.foldl _ (256 * 0 + x.toNat) = _
      rw [foldl_val]; simp
    have e1 : Oct.val (x :: l) / 256 ^ l.length = x.toNat := by
      rw [e, Nat.mul_comm, Nat.mul_add_div (Nat.pow_pos (by decide)), Nat.div_eq_of_lt hv, Nat.add_zero]
    have e2 : Oct.val (x :: l) % 256 ^ l.length = Oct.val l := by
      rw [e, Nat.mul_comm, Nat.mul_add_mod, Nat.mod_eq_of_lt hv]
    show UInt8.ofNat (Oct.val (x :: l) / 256 ^ l.length) :: Oct.be (Oct.val (x :: l)) l.length = _
    rw [e1, ← be_mod (Oct.val (x :: l)) l.length l.length (Nat.le_refl _), e2, be_val l]
    simp
end Go.Proofs.Ytodfcalaggfldaa

/- Sums with a key, in plain words. No conditions. -/
import Derived.Test.YtapogkodlempkaaPlSha
namespace Go.Proofs.Ytapogkodlempkaa
set_option linter.unusedVariables false
set_option linter.unusedSimpArgs false
open Go.RowKit Sym

namespace Mac
/-- each byte turned by n -/
def turn (n : UInt8) (l : List UInt8) : List UInt8 := l.map (· ^^^ n)
/-- the key of 64 bytes -/
def key64 (key : List UInt8) : List UInt8 :=
  let k := if 64 < key.length then Sha.shaL key else key
  k ++ List.replicate (64 - k.length) 0
def macL (key all : List UInt8) : List UInt8 := Sha.shaL (turn 92 (key64 key) ++ Sha.shaL (turn 54 (key64 key) ++ all))
theorem key64_length (key : List UInt8) : (key64 key).length = 64 := by
  unfold key64
  by_cases h : 64 < key.length
  · simp [h, Sha.shaL_length]
  · simp [h]; omega
theorem macL_length (key all : List UInt8) : (macL key all).length = 32 := Sha.shaL_length _
/-- bytes 0 behind a short key change nothing -/
theorem key64_zeros (key : List UInt8) (n : Nat) (h : key.length + n ≤ 64) : key64 (key ++ List.replicate n 0) = key64 key := by
  unfold key64
  have h1 : ¬ 64 < key.length := by omega
  have h2 : ¬ 64 < (key ++ List.replicate n (0 : UInt8)).length := by simp; omega
  simp only [if_neg h1, if_neg h2]
  rw [List.append_assoc, List.replicate_append_replicate, List.length_append, List.length_replicate]
  congr 2
  omega
def jefe : List UInt8 := [74, 101, 102, 101]
def want : List UInt8 := [119, 104, 97, 116, 32, 100, 111, 32, 121, 97, 32, 119, 97, 110, 116, 32, 102, 111, 114, 32, 110, 111, 116, 104, 105, 110, 103, 63]
theorem mac_jefe : macL jefe want = [91, 220, 193, 70, 191, 96, 117, 78, 106, 4, 36, 38, 8, 149, 117, 199, 90, 0, 63, 8, 157, 39, 57, 131, 157, 236, 88, 185, 100, 236, 56, 67] := by decide +kernel
end Mac
def macOf (key all : ByteArray) : ByteArray := ⟨(Mac.macL key.data.toList all.data.toList).toArray⟩
theorem macOf_size (key all : ByteArray) : (macOf key all).size = 32 := by
  show (Mac.macL key.data.toList all.data.toList).toArray.size = 32
  simp [Mac.macL_length]
end Go.Proofs.Ytapogkodlempkaa

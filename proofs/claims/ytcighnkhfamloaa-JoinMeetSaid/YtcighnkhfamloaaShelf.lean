/-
  DERIVED: THE SHELF's CONTRACTS AT THIS DUMP, IN PLAIN WORDS (tools/lay-plain.mjs out of 'TryShelf.lean', which tools/lay-shelf.mjs wrote): THE SAME DECLARATIONS UNDER THE SAME NAMES: 'import', 'namespace', 'open', 'def', 'theorem' AND NOTHING ELSE: no command of the shelf's: FOR A HAND-IN. Each laying: the table of numbers ('.._ren') and one theorem, a field a fact of the dump's own or the kernel's comparison; each contract: ONE APPLICATION.
-/
import Derived.Shelf.Strings.Repeat
import Derived.Test.YtcighnkhfamloaaProg
namespace Go.Proofs
open Go.Shelf
def Try.lays105_ren : Go.Shelf.Ren := ⟨fun | 105 => 229 | 212 => 250 | 99 => 251 | 165 => 252 | 166 => 173 | 170 => 174 | 169 => 175 | 263 => 263 | 264 => 264 | 206 => 265 | 240 => 224 | 241 => 266 | 276 => 248 | 277 => 271 | n => n, fun | 9 => 9 | 3 => 3 | 4 => 4 | 20 => 20 | 0 => 0 | 46 => 240 | 109 => 321 | 5 => 5 | 72 => 245 | 76 => 250 | 51 => 46 | 146 => 338 | 53 => 52 | 148 => 340 | 70 => 243 | 37 => 74 | 75 => 247 | 127 => 294 | 164 => 318 | 80 => 200 | n => n, fun | n => n⟩
theorem Try.lays105 : Go.Proofs.Lays.n105 Try.prog Try.lays105_ren := {
  mixed := by kernel_rfl
  f99 := Try.func251.trans (congrArg some (by kernel_rfl))
  f105 := Try.func229.trans (congrArg some (by kernel_rfl))
  f165 := Try.func252.trans (congrArg some (by kernel_rfl))
  f166 := Try.func173.trans (congrArg some (by kernel_rfl))
  f169 := Try.func175.trans (congrArg some (by kernel_rfl))
  f170 := Try.func174.trans (congrArg some (by kernel_rfl))
  f206 := Try.func265.trans (congrArg some (by kernel_rfl))
  f212 := Try.func250.trans (congrArg some (by kernel_rfl))
  f240 := Try.func224.trans (congrArg some (by kernel_rfl))
  f241 := Try.func266.trans (congrArg some (by kernel_rfl))
  f263 := Try.func263.trans (congrArg some (by kernel_rfl))
  f264 := Try.func264.trans (congrArg some (by kernel_rfl))
  f276 := Try.func248.trans (congrArg some (by kernel_rfl))
  f277 := Try.func271.trans (congrArg some (by kernel_rfl))
  t0 := Try.underlying0
  a0 := Try.isAgg0
  z0 := Try.sizeOf0
  v0 := Try.zeroValue0
  t3 := Try.underlying3
  a3 := Try.isAgg3
  z3 := Try.sizeOf3
  v3 := Try.zeroValue3
  t4 := Try.underlying4
  a4 := Try.isAgg4
  z4 := Try.sizeOf4
  v4 := Try.zeroValue4
  t5 := Try.underlying5
  a5 := Try.isAgg5
  z5 := Try.sizeOf5
  v5 := Try.zeroValue5
  t9 := Try.underlying9
  a9 := Try.isAgg9
  z9 := Try.sizeOf9
  v9 := Try.zeroValue9
  t20 := Try.underlying20
  a20 := Try.isAgg20
  z20 := Try.sizeOf20
  v20 := Try.zeroValue20
  t37 := Try.underlying74
  a37 := Try.isAgg74
  z37 := Try.sizeOf74
  v37 := Try.zeroValue74
  t46 := Try.underlying240
  a46 := Try.isAgg240
  z46 := Try.sizeOf240
  v46 := Try.zeroValue240
  t51 := Try.underlying46
  a51 := Try.isAgg46
  z51 := Try.sizeOf46
  v51 := Try.zeroValue46
  t53 := Try.underlying52
  a53 := Try.isAgg52
  z53 := Try.sizeOf52
  v53 := Try.zeroValue52
  t70 := Try.underlying243
  a70 := Try.isAgg243
  z70 := Try.sizeOf243
  v70 := Try.zeroValue243
  t72 := Try.underlying245
  a72 := Try.isAgg245
  z72 := Try.sizeOf245
  v72 := Try.zeroValue245
  t75 := Try.underlying247
  a75 := Try.isAgg247
  z75 := Try.sizeOf247
  v75 := Try.zeroValue247
  t76 := Try.underlying250
  a76 := Try.isAgg250
  z76 := Try.sizeOf250
  v76 := Try.zeroValue250
  t109 := Try.underlying321
  a109 := Try.isAgg321
  z109 := Try.sizeOf321
  v109 := Try.zeroValue321
  t127 := Try.underlying294
  a127 := Try.isAgg294
  z127 := Try.sizeOf294
  v127 := Try.zeroValue294
  t146 := Try.underlying338
  a146 := Try.isAgg338
  z146 := Try.sizeOf338
  v146 := Try.zeroValue338
  t148 := Try.underlying340
  a148 := Try.isAgg340
  z148 := Try.sizeOf340
  v148 := Try.zeroValue340
  t164 := Try.underlying318
  a164 := Try.isAgg318
  z164 := Try.sizeOf318
  v164 := Try.zeroValue318 }
theorem Try.Builder_Extra_105 : Builder.Extra Try.prog Try.lays105_ren := {
  sizeBuilder := by kernel_rfl
  liesBuilder := by kernel_rfl
  t5 := Try.underlying5
  a5 := Try.isAgg5
  z5 := Try.sizeOf5
  v5 := Try.zeroValue5
  infoByte := by kernel_rfl
  cellsByte := by kernel_rfl
  sizeByte := by kernel_rfl
  neB5 := by decide }
open Go.RowKit Go.Lib in
/-- THE MAIN CASE: at least two copies of a string that is not empty. (LAID: no walk: one application.) -/
theorem Try.strings_Repeat_main (s : ByteArray) (c : Nat) (w : World) (hc2 : 2 ≤ c) (hc : c ≤ 9223372036854775807) (hlen : s.size * c ≤ 140737488355328) (h0 : 0 < s.size) :
    Calls Try.prog 229 #[.string s, .int .i64 c] w fun e w' => e = .returned (.string ⟨(Lib.repeatL s.data.toList c).toArray⟩) ∧ Below w.heap.size w w' := Any.strings_Repeat_main Try.lays105 Try.Builder_Extra_105 s c w hc2 hc hlen h0
open Go.RowKit Go.Lib in
theorem Try.strings_Repeat_zero (s : ByteArray) (w : World) :
    Calls Try.prog 229 #[.string s, .int .i64 0] w fun e w' => e = .returned (.string ⟨#[]⟩) ∧ w' = w := Any.strings_Repeat_zero Try.lays105 s w
open Go.RowKit Go.Lib in
theorem Try.strings_Repeat_one (s : ByteArray) (w : World) :
    Calls Try.prog 229 #[.string s, .int .i64 1] w fun e w' => e = .returned (.string s) ∧ w' = w := Any.strings_Repeat_one Try.lays105 s w
open Go.RowKit Go.Lib in
/-- Copies of the empty string. (LAID: no walk: one application.) -/
theorem Try.strings_Repeat_empty (s : ByteArray) (c : Nat) (w : World) (hc2 : 2 ≤ c) (hc : c ≤ 9223372036854775807) (h0 : s.size = 0) :
    Calls Try.prog 229 #[.string s, .int .i64 c] w fun e w' => e = .returned (.string ⟨#[]⟩) ∧ w' = w := Any.strings_Repeat_empty Try.lays105 s c w hc2 hc h0
open Go.RowKit Go.Lib in
/-- count < 0: "It panics if count is negative". (LAID: no walk: one application.) -/
theorem Try.strings_Repeat_negative (s : ByteArray) (c : Int) (w : World) (hc : c < 0) :
    Calls Try.prog 229 #[.string s, .int .i64 c] w fun e w' => e = .panicked [{ v := repeatPanic Try.lays105_ren "strings: negative Repeat count", recovered := false }] ∧ w' = w := Any.strings_Repeat_negative Try.lays105 s c w hc
open Go.RowKit Go.Lib in
/-- len(s) * count is no int: ".. or if the result of (len(s) * count) overflows". (LAID: no walk: one application.) -/
theorem Try.strings_Repeat_overflow (s : ByteArray) (c : Nat) (w : World) (hc : c ≤ 9223372036854775807) (hs : s.size ≤ 9223372036854775807) (hbig : 9223372036854775807 < s.size * c) :
    Calls Try.prog 229 #[.string s, .int .i64 c] w fun e w' => e = .panicked [{ v := repeatPanic Try.lays105_ren "strings: Repeat output length overflow", recovered := false }] ∧ w' = w := Any.strings_Repeat_overflow Try.lays105 s c w hc hs hbig
open Go.RowKit Go.Lib in
/-- **strings.Repeat: count ≥ 0, the result within one allocation: count copies of s.** (LAID: no walk: one application.) -/
theorem Try.strings_Repeat (s : ByteArray) (c : Nat) (w : World) (hc : c ≤ 9223372036854775807) (hlen : s.size * c ≤ 140737488355328) :
    Calls Try.prog 229 #[.string s, .int .i64 c] w fun e w' => e = .returned (.string ⟨(Lib.repeatL s.data.toList c).toArray⟩) ∧ Below w.heap.size w w' := Any.strings_Repeat Try.lays105 Try.Builder_Extra_105 s c w hc hlen
end Go.Proofs

/-
  DERIVED: THE SHELF's CONTRACTS AT THIS DUMP, IN PLAIN WORDS (tools/lay-plain.mjs out of 'TryzShelf.lean', which tools/lay-shelf.mjs wrote): THE SAME DECLARATIONS UNDER THE SAME NAMES: 'import', 'namespace', 'open', 'def', 'theorem' AND NOTHING ELSE: no command of the shelf's: FOR A HAND-IN. Each laying: the table of numbers ('.._ren') and one theorem, a field a fact of the dump's own or the kernel's comparison; each contract: ONE APPLICATION.
-/
import Derived.Shelf.Strings.Repeat
import Derived.Test.YtbippdeahoehoaaGreatProg
namespace Go.Proofs
open Go.Shelf
def Tryz.lays105_ren : Go.Shelf.Ren := ⟨fun | 105 => 357 | 212 => 412 | 99 => 413 | 165 => 414 | 166 => 346 | 170 => 347 | 169 => 331 | 263 => 438 | 264 => 439 | 206 => 440 | 240 => 404 | 241 => 441 | 276 => 434 | 277 => 448 | n => n, fun | 9 => 9 | 3 => 3 | 4 => 4 | 20 => 20 | 0 => 0 | 46 => 256 | 109 => 548 | 5 => 5 | 72 => 474 | 76 => 494 | 51 => 382 | 146 => 567 | 53 => 384 | 148 => 569 | 70 => 472 | 37 => 346 | 75 => 476 | 127 => 542 | 164 => 562 | 80 => 224 | n => n, fun | n => n⟩
theorem Tryz.lays105 : Go.Proofs.Lays.n105 Tryz.prog Tryz.lays105_ren := {
  mixed := by kernel_rfl
  f99 := Tryz.func413.trans (congrArg some (by kernel_rfl))
  f105 := Tryz.func357.trans (congrArg some (by kernel_rfl))
  f165 := Tryz.func414.trans (congrArg some (by kernel_rfl))
  f166 := Tryz.func346.trans (congrArg some (by kernel_rfl))
  f169 := Tryz.func331.trans (congrArg some (by kernel_rfl))
  f170 := Tryz.func347.trans (congrArg some (by kernel_rfl))
  f206 := Tryz.func440.trans (congrArg some (by kernel_rfl))
  f212 := Tryz.func412.trans (congrArg some (by kernel_rfl))
  f240 := Tryz.func404.trans (congrArg some (by kernel_rfl))
  f241 := Tryz.func441.trans (congrArg some (by kernel_rfl))
  f263 := Tryz.func438.trans (congrArg some (by kernel_rfl))
  f264 := Tryz.func439.trans (congrArg some (by kernel_rfl))
  f276 := Tryz.func434.trans (congrArg some (by kernel_rfl))
  f277 := Tryz.func448.trans (congrArg some (by kernel_rfl))
  t0 := Tryz.underlying0
  a0 := Tryz.isAgg0
  z0 := Tryz.sizeOf0
  v0 := Tryz.zeroValue0
  t3 := Tryz.underlying3
  a3 := Tryz.isAgg3
  z3 := Tryz.sizeOf3
  v3 := Tryz.zeroValue3
  t4 := Tryz.underlying4
  a4 := Tryz.isAgg4
  z4 := Tryz.sizeOf4
  v4 := Tryz.zeroValue4
  t5 := Tryz.underlying5
  a5 := Tryz.isAgg5
  z5 := Tryz.sizeOf5
  v5 := Tryz.zeroValue5
  t9 := Tryz.underlying9
  a9 := Tryz.isAgg9
  z9 := Tryz.sizeOf9
  v9 := Tryz.zeroValue9
  t20 := Tryz.underlying20
  a20 := Tryz.isAgg20
  z20 := Tryz.sizeOf20
  v20 := Tryz.zeroValue20
  t37 := Tryz.underlying346
  a37 := Tryz.isAgg346
  z37 := Tryz.sizeOf346
  v37 := Tryz.zeroValue346
  t46 := Tryz.underlying256
  a46 := Tryz.isAgg256
  z46 := Tryz.sizeOf256
  v46 := Tryz.zeroValue256
  t51 := Tryz.underlying382
  a51 := Tryz.isAgg382
  z51 := Tryz.sizeOf382
  v51 := Tryz.zeroValue382
  t53 := Tryz.underlying384
  a53 := Tryz.isAgg384
  z53 := Tryz.sizeOf384
  v53 := Tryz.zeroValue384
  t70 := Tryz.underlying472
  a70 := Tryz.isAgg472
  z70 := Tryz.sizeOf472
  v70 := Tryz.zeroValue472
  t72 := Tryz.underlying474
  a72 := Tryz.isAgg474
  z72 := Tryz.sizeOf474
  v72 := Tryz.zeroValue474
  t75 := Tryz.underlying476
  a75 := Tryz.isAgg476
  z75 := Tryz.sizeOf476
  v75 := Tryz.zeroValue476
  t76 := Tryz.underlying494
  a76 := Tryz.isAgg494
  z76 := Tryz.sizeOf494
  v76 := Tryz.zeroValue494
  t109 := Tryz.underlying548
  a109 := Tryz.isAgg548
  z109 := Tryz.sizeOf548
  v109 := Tryz.zeroValue548
  t127 := Tryz.underlying542
  a127 := Tryz.isAgg542
  z127 := Tryz.sizeOf542
  v127 := Tryz.zeroValue542
  t146 := Tryz.underlying567
  a146 := Tryz.isAgg567
  z146 := Tryz.sizeOf567
  v146 := Tryz.zeroValue567
  t148 := Tryz.underlying569
  a148 := Tryz.isAgg569
  z148 := Tryz.sizeOf569
  v148 := Tryz.zeroValue569
  t164 := Tryz.underlying562
  a164 := Tryz.isAgg562
  z164 := Tryz.sizeOf562
  v164 := Tryz.zeroValue562 }
theorem Tryz.Builder_Extra_105 : Builder.Extra Tryz.prog Tryz.lays105_ren := {
  sizeBuilder := by kernel_rfl
  liesBuilder := by kernel_rfl
  t5 := Tryz.underlying5
  a5 := Tryz.isAgg5
  z5 := Tryz.sizeOf5
  v5 := Tryz.zeroValue5
  infoByte := by kernel_rfl
  cellsByte := by kernel_rfl
  sizeByte := by kernel_rfl
  neB5 := by decide }
open Go.RowKit Go.Lib in
/-- THE MAIN CASE: at least two copies of a string that is not empty. (LAID: no walk: one application.) -/
theorem Tryz.strings_Repeat_main (s : ByteArray) (c : Nat) (w : World) (hc2 : 2 ≤ c) (hc : c ≤ 9223372036854775807) (hlen : s.size * c ≤ 140737488355328) (h0 : 0 < s.size) :
    Calls Tryz.prog 357 #[.string s, .int .i64 c] w fun e w' => e = .returned (.string ⟨(Lib.repeatL s.data.toList c).toArray⟩) ∧ Below w.heap.size w w' := Any.strings_Repeat_main Tryz.lays105 Tryz.Builder_Extra_105 s c w hc2 hc hlen h0
open Go.RowKit Go.Lib in
theorem Tryz.strings_Repeat_zero (s : ByteArray) (w : World) :
    Calls Tryz.prog 357 #[.string s, .int .i64 0] w fun e w' => e = .returned (.string ⟨#[]⟩) ∧ w' = w := Any.strings_Repeat_zero Tryz.lays105 s w
open Go.RowKit Go.Lib in
theorem Tryz.strings_Repeat_one (s : ByteArray) (w : World) :
    Calls Tryz.prog 357 #[.string s, .int .i64 1] w fun e w' => e = .returned (.string s) ∧ w' = w := Any.strings_Repeat_one Tryz.lays105 s w
open Go.RowKit Go.Lib in
/-- Copies of the empty string. (LAID: no walk: one application.) -/
theorem Tryz.strings_Repeat_empty (s : ByteArray) (c : Nat) (w : World) (hc2 : 2 ≤ c) (hc : c ≤ 9223372036854775807) (h0 : s.size = 0) :
    Calls Tryz.prog 357 #[.string s, .int .i64 c] w fun e w' => e = .returned (.string ⟨#[]⟩) ∧ w' = w := Any.strings_Repeat_empty Tryz.lays105 s c w hc2 hc h0
open Go.RowKit Go.Lib in
/-- count < 0: "It panics if count is negative". (LAID: no walk: one application.) -/
theorem Tryz.strings_Repeat_negative (s : ByteArray) (c : Int) (w : World) (hc : c < 0) :
    Calls Tryz.prog 357 #[.string s, .int .i64 c] w fun e w' => e = .panicked [{ v := repeatPanic Tryz.lays105_ren "strings: negative Repeat count", recovered := false }] ∧ w' = w := Any.strings_Repeat_negative Tryz.lays105 s c w hc
open Go.RowKit Go.Lib in
/-- len(s) * count is no int: ".. or if the result of (len(s) * count) overflows". (LAID: no walk: one application.) -/
theorem Tryz.strings_Repeat_overflow (s : ByteArray) (c : Nat) (w : World) (hc : c ≤ 9223372036854775807) (hs : s.size ≤ 9223372036854775807) (hbig : 9223372036854775807 < s.size * c) :
    Calls Tryz.prog 357 #[.string s, .int .i64 c] w fun e w' => e = .panicked [{ v := repeatPanic Tryz.lays105_ren "strings: Repeat output length overflow", recovered := false }] ∧ w' = w := Any.strings_Repeat_overflow Tryz.lays105 s c w hc hs hbig
open Go.RowKit Go.Lib in
/-- **strings.Repeat: count ≥ 0, the result within one allocation: count copies of s.** (LAID: no walk: one application.) -/
theorem Tryz.strings_Repeat (s : ByteArray) (c : Nat) (w : World) (hc : c ≤ 9223372036854775807) (hlen : s.size * c ≤ 140737488355328) :
    Calls Tryz.prog 357 #[.string s, .int .i64 c] w fun e w' => e = .returned (.string ⟨(Lib.repeatL s.data.toList c).toArray⟩) ∧ Below w.heap.size w w' := Any.strings_Repeat Tryz.lays105 Tryz.Builder_Extra_105 s c w hc hlen
end Go.Proofs

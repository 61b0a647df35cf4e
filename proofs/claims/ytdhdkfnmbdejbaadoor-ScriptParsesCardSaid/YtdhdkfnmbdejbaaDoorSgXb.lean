/- The statement on parsing and writing, walked. No conditions but bounds on the act's numbers, and that the library's table reads as it is laid. -/
import Derived.Test.YtdhdkfnmbdejbaaDoorSgX
import Derived.Test.YtdhdkfnmbdejbaaDoorSgN
import Derived.Test.YtdhdkfnmbdejbaaDoorSgO
import Derived.Test.YtdhdkfnmbdejbaaDoorSgQ
namespace Go.Proofs.YtdhdkfnmbdejbaaDoor
set_option linter.unusedVariables false
set_option linter.unusedSimpArgs false
open Go.RowKit

set_option maxRecDepth 100000 in
set_option maxHeartbeats 16000000 in
theorem parses_any {w : World} (line : ByteArray) (a : ActP) (hx : In64 a.x) (hy : In64 a.y) (hz : In64 a.z) (ht : TabW w) :
    Calls Tryd.prog 3 #[.string line, .agg #[.int .i64 a.k, .int .i64 a.s, .int .i64 a.x, .int .i64 a.y, .int .i64 a.z, .string a.d]] w fun e w' => e = .returned (.bool true) ∧ Below w.heap.size w w' := by
  have hwk := fun W hW => works_any W hW
  have hown0 := own_new w a.cs 23
  by_cases h1 : (3000 : Int) < (line.size : Int)
  · go_enter Tryd.func3, Tryd.ntmps3
    go_wp2_with (go_at_call 6; (with_reducible refine (hwk _ (ht.below (below_alloc (Below.refl _ w) _))).mono ?_); rintro e w1 ⟨rfl, hb1⟩; have hb2 : Below w.heap.size w w1 := (below_alloc (Below.refl _ w) _).trans (hb1.mono (by simp)))
    go_ret
    exact ⟨rfl, hb2⟩
  by_cases h2 : (1000 : Int) < (a.d.size : Int)
  · go_enter Tryd.func3, Tryd.ntmps3
    go_wp2_with (go_at_call 6; (with_reducible refine (hwk _ (ht.below (below_alloc (Below.refl _ w) _))).mono ?_); rintro e w1 ⟨rfl, hb1⟩; have hb2 : Below w.heap.size w w1 := (below_alloc (Below.refl _ w) _).trans (hb1.mono (by simp)); obtain ⟨q0, q1, q2, q3, q4, q5, qf⟩ := ActAt.at (own_below hown0 hb1))
    go_ret
    exact ⟨rfl, hb2⟩
  have hai : ActIn a := ⟨hx, hy, hz, by omega⟩
  have hpr := fun W => parse_any line W
  have hrp := fun W => rparse_any line W
  have hwr := fun W hW => write_any a hai W hW
  have hrw := fun W => rwrite_any a hai W
  generalize writeP a = H at hwr hrw
  obtain ⟨P, hP⟩ : ∃ P, parseP line = P := ⟨_, rfl⟩
  rw [hP] at hpr hrp
  obtain ⟨P, er⟩ := P
  have hpr2 : ∀ W, Calls Tryd.prog 7 #[.string line] W fun e w' => e = .returned (.tuple #[.agg #[.int .i64 P.k, .int .i64 P.s, .int .i64 P.x, .int .i64 P.y, .int .i64 P.z, .string P.d], .int .i64 er]) ∧ Below W.heap.size W w' := hpr
  have hrp2 : ∀ W, Calls Tryd.prog 8 #[.string line] W fun e w' => e = .returned (.tuple #[.agg #[.int .i64 P.k, .int .i64 P.s, .int .i64 P.x, .int .i64 P.y, .int .i64 P.z, .string P.d], .int .i64 er]) ∧ Below W.heap.size W w' := hrp
  clear hpr hrp hP hai hx hy hz
  go_enter Tryd.func3, Tryd.ntmps3
  go_wp2_with (first
    | (go_at_call 6; (with_reducible refine (hwk _ (ht.below (below_alloc (Below.refl _ w) _))).mono ?_); rintro e w1 ⟨rfl, hb1⟩; have hb2 : Below w.heap.size w w1 := (below_alloc (Below.refl _ w) _).trans (hb1.mono (by simp)); have hx1 := own_below hown0 hb1; have hs1 := hb2.size; obtain ⟨q0, q1, q2, q3, q4, q5, qf⟩ := ActAt.at hx1)
    | (go_at_call 7; (with_reducible refine (hpr2 _).mono ?_); rintro e w2 ⟨rfl, hb3⟩; have hx2 := own_below hx1 hb3; have hb4 := hb2.trans (hb3.mono hs1); have hs4 := hb4.size)
    | (go_at_call 8; (with_reducible refine (hrp2 _).mono ?_); rintro e w3 ⟨rfl, hb5⟩; have hx3 := own_below (own_alloc hx2 (.cells P.cs 23)) hb5; have hz3 := own_below (own_new w2 P.cs 23) hb5; have hb6 : Below w.heap.size w w3 := (below_alloc hb4 (.cells P.cs 23)).trans (hb5.mono (by simp; omega))))
  have hx7 := own_alloc hx3 (.cells P.cs 23)
  have hz7 := own_alloc hz3 (.cells P.cs 23)
  have hy7 := own_new w3 P.cs 23
  have hb7 : Below w.heap.size w (w3.alloc (.cells P.cs 23)) := below_alloc hb6 _
  change Code.wp _ _ _ _ (w3.alloc (.cells P.cs 23))
  clear q0 q1 q2 q3 q4 q5 qf hown0 hx1 hx2 hx3 hz3 hb1 hb2 hb3 hb4 hb5 hb6 hwk hpr2 hrp2
  generalize (w3.alloc (.cells P.cs 23)) = W7 at *
  obtain ⟨q0, q1, q2, q3, q4, q5, qf⟩ := ActAt.at hx7
  obtain ⟨p0, p1, p2, p3, p4, p5, pf⟩ := ActAt.at hz7
  obtain ⟨y0, y1, y2, y3, y4, y5, yf⟩ := ActAt.at hy7
  have ht7 : TabW W7.drew := ht.below hb7.drew
  have hs7 : w.heap.size ≤ W7.drew.heap.size := hb7.size
  go_region_with (first
    | (go_at_call 9; (with_reducible refine (hwr _ ht7).mono ?_); rintro e w8 ⟨rfl, hb8⟩; obtain ⟨r0, r1, r2, r3, r4, r5, rf⟩ := ActAt.at (own_below (own_drew hx7) hb8); have hb9 := hb7.drew.trans (hb8.mono hs7))
    | (go_at_call 10; (with_reducible refine (hrw _).mono ?_); rintro e w9 ⟨rfl, hb10⟩; have hb11 := hb9.trans (hb10.mono hb9.size)))
  all_goals go_wp2
  all_goals go_ret
  all_goals exact ⟨rfl, hb11⟩
end Go.Proofs.YtdhdkfnmbdejbaaDoor

/- Paths: the anchor of the laws of paths. No conditions. -/
import Derived.Test.YtenngklohffoaaaPthJ
import Derived.Test.YtenngklohffoaaaPthK
import Derived.Test.YtenngklohffoaaaPthI
import Derived.Test.YtenngklohffoaaaPth1
import Derived.Test.YtenngklohffoaaaPthW
import Derived.Test.YtenngklohffoaaaPthT
namespace Go.Proofs.Ytenngklohffoaaa
set_option linter.unusedVariables false
set_option linter.unusedSimpArgs false
open Go.RowKit Sym Go.Maps Go.WideMaps Go.Sort Go.Lib Go.Shelf

def qW (p : Nat) (x : Value) (F : List Nat) : PRow := ⟨p, 2, 3, 2, 0, 0, x, F⟩
def qV (p : Nat) : PRow := ⟨p, 2, 3, 0, 0, 0, .pointer none, []⟩
theorem addE_W (p : Nat) (x : Value) (F : List Nat) : addE [] (qW p x F) = 0 := by
  have : InR (qW p x F) := ⟨by show (0:Int) ≤ 2; omega, by show (2:Int) ≤ 15; omega, by show (0:Int) ≤ 3; omega, by show (3:Int) ≤ 15; omega⟩
  unfold addE
  rw [if_neg (fun h => h this)]
  rfl
theorem addE_V (p p' : Nat) (x : Value) (F : List Nat) : addE [qW p x F] (qV p') = 9 := by
  have : InR (qV p') := ⟨by show (0:Int) ≤ 2; omega, by show (2:Int) ≤ 15; omega, by show (0:Int) ≤ 3; omega, by show (3:Int) ≤ 15; omega⟩
  unfold addE
  rw [if_neg (fun h => h this)]
  rfl
theorem addL_W (p : Nat) (x : Value) (F : List Nat) : addL [] (qW p x F) = [qW p x F] := by unfold addL; rw [addE_W]; rfl
theorem addL_V (p p' : Nat) (x : Value) (F : List Nat) : addL [qW p x F] (qV p') = [qW p x F] := by unfold addL; rw [addE_V]; rfl
theorem add_W {w : World} {o : Array Value} {t : TypeId} {tb b c : Nat} {F : List Nat} (h : TabAt w tb b []) (hp : PathAt (w.alloc (.cells o t)) (qW w.heap.size (.pointer (some ⟨c, 0, none⟩)) F)) :
    Calls Try.prog 6 #[.pointer (some ⟨tb, 0, none⟩), .pointer (some ⟨w.heap.size, 0, none⟩)] (w.alloc (.cells o t)) fun e w' => e = .returned (.int .i64 0) ∧ Keeps [b] (w.alloc (.cells o t)) w' ∧ TabAt w' tb b [qW w.heap.size (.pointer (some ⟨c, 0, none⟩)) F] := by
  have hx : wf64 (qW w.heap.size (.pointer (some ⟨c, 0, none⟩)) F).x := by unfold wf64 qW; simp
  have hy : wf64 (qW w.heap.size (.pointer (some ⟨c, 0, none⟩)) F).y := by unfold wf64 qW; simp
  have hlt := h.ltb
  have hn : (qW w.heap.size (.pointer (some ⟨c, 0, none⟩)) F).p ≠ b := by unfold qW; simp; omega
  have := add_any (h.below ((Below.refl _ _).alloc (Nat.le_refl _) (.cells o t))) hp hx hy hn
  rw [addE_W, addL_W] at this
  exact this
theorem add_V {w : World} {o : Array Value} {t : TypeId} {tb b p : Nat} {x : Value} {F : List Nat} (h : TabAt w tb b [qW p x F]) (hp : PathAt (w.alloc (.cells o t)) (qV w.heap.size)) :
    Calls Try.prog 6 #[.pointer (some ⟨tb, 0, none⟩), .pointer (some ⟨w.heap.size, 0, none⟩)] (w.alloc (.cells o t)) fun e w' => e = .returned (.int .i64 9) ∧ Keeps [b] (w.alloc (.cells o t)) w' ∧ TabAt w' tb b [qW p x F] := by
  have hx : wf64 (qV w.heap.size).x := by unfold wf64 qV; simp
  have hy : wf64 (qV w.heap.size).y := by unfold wf64 qV; simp
  have hlt := h.ltb
  have hn : (qV w.heap.size).p ≠ b := by unfold qV; simp; omega
  have := add_any (h.below ((Below.refl _ _).alloc (Nat.le_refl _) (.cells o t))) hp hx hy hn
  rw [addE_V, addL_V] at this
  exact this
theorem order_one {r : PRow} {rs : List PRow} (h : InOrder [r] rs) : rs = [r] := List.perm_singleton.1 h.1
theorem wfS {x : Int} (h : 0 ≤ x ∧ x ≤ 15) : wf64 x := by unfold wf64; omega
theorem below_one (w : World) (o : Obj) : Below w.heap.size w (w.alloc o) := (Below.refl _ _).alloc (Nat.le_refl _) o
theorem qW_at {w2 : World} {c : Nat} {F : List Nat} (cs : Array Value) (h0 : cs[0]? = some (.int .i64 2)) (h1 : cs[1]? = some (.int .i64 3)) (h2 : cs[2]? = some (.int .i64 2)) (h3 : cs[3]? = some (.int .i64 0)) (h5 : cs[5]? = some (.pointer (some ⟨c, 0, none⟩))) : PathAt (w2.alloc (.cells cs 34)) (qW w2.heap.size (.pointer (some ⟨c, 0, none⟩)) F) := path_new rfl h0 h1 h2 h3 h5
theorem qV_at {w2 : World} (cs : Array Value) (h0 : cs[0]? = some (.int .i64 2)) (h1 : cs[1]? = some (.int .i64 3)) (h2 : cs[2]? = some (.int .i64 0)) (h3 : cs[3]? = some (.int .i64 0)) (h5 : cs[5]? = some (.pointer none)) : PathAt (w2.alloc (.cells cs 34)) (qV w2.heap.size) := path_new rfl h0 h1 h2 h3 h5
theorem ctl_keeps {w w' : World} {x : Value} {se b : Nat} {F : List Nat} (h : CtlAt w x se F) (hk : Keeps [b] w w') (hF : ∀ k ∈ F, k ≠ b) : CtlAt w' x se F :=
  h.kept fun k hkF => hk.block k (h.lt k hkF) (by simp [hF k hkF])
theorem below_keeps {B b : Nat} {w0 w w' : World} (h : Below B w0 w) (hk : Keeps [b] w w') (hb : B ≤ b) (hB : B ≤ w.heap.size) : Below B w0 w' :=
  ⟨hk.os.trans h.os, hk.tape.trans h.tape, hk.output.trans h.output, Nat.le_trans h.size hk.size, fun k hlt => (hk.block k (by omega) (by simp; omega)).trans (h.block k hlt)⟩
theorem one_row {w : World} {base : Nat} {e : TypeId} {u a b c d : Value} (h : w.ownsRow base e 4 u 1 [a, b, c, d]) : ∃ g cap, u = .slice (some ⟨g, 0, none⟩) 1 cap ∧ w.cell? ⟨g, 0, none⟩ = some a ∧ w.cell? ⟨g, 1, none⟩ = some b ∧ w.cell? ⟨g, 2, none⟩ = some c ∧ w.cell? ⟨g, 3, none⟩ = some d := by
  have h' := h
  rcases h.2 with ⟨rfl, h0⟩ | ⟨g, cap, cur, rfl, _⟩
  · cases h0
  · exact ⟨g, cap, rfl, h'.cellAt 0 (by simp), h'.cellAt 1 (by simp), h'.cellAt 2 (by simp), h'.cellAt 3 (by simp)⟩
theorem find_any {w : World} {tb b : Nat} {L : List PRow} (h : TabAt w tb b L) {x y : Int} (hx : wf64 x) (hy : wf64 y) :
    Calls Try.prog 7 #[.pointer (some ⟨tb, 0, none⟩), .agg #[.int .i64 x, .int .i64 y]] w fun e w' => e = .returned (match look L x y with | some r => ptrOf r | none => .pointer none) ∧ Below w.heap.size w w' := by
  obtain ⟨D, hown, hD⟩ := h.map
  have := find_at (kPl_eq hx hy) h.tab hown
  rwa [hD.held h.ap hx hy] at this
theorem find_W {w : World} {tb b p : Nat} {x : Value} {F : List Nat} (h : TabAt w tb b [qW p x F]) : Calls Try.prog 7 #[.pointer (some ⟨tb, 0, none⟩), .agg #[.int .i64 2, .int .i64 3]] w fun e w' => e = .returned (.pointer (some ⟨p, 0, none⟩)) ∧ Below w.heap.size w w' :=
  find_any h (by unfold wf64; omega) (by unfold wf64; omega)
theorem choices_W {w : World} {tb b p : Nat} {x : Value} {F : List Nat} (h : TabAt w tb b [qW p x F]) (hc : CtlAt w x 0 F) : Calls Try.prog 10 #[.pointer (some ⟨tb, 0, none⟩)] w fun e w' => ∃ g cap, e = .returned (.slice (some ⟨g, 0, none⟩) 1 cap) ∧ (w'.cell? ⟨g, 0, none⟩ = some (.int .i64 35) ∧ w'.cell? ⟨g, 1, none⟩ = some (.int .i64 0) ∧ w'.cell? ⟨g, 2, none⟩ = some (.int .i64 8) ∧ w'.cell? ⟨g, 3, none⟩ = some (.bool true)) ∧ TabAt w' tb b [qW p x F] ∧ Below w.heap.size w w' := by
  refine (choices_any sortLaw ⟨h, fun r hr => by rw [List.mem_singleton.1 hr]; exact hc⟩).mono ?_
  rintro e w' ⟨u, rs, rfl, hO, hrow, hb⟩
  obtain rfl := order_one hO
  obtain ⟨g, cap, rfl, h1, h2, h3, h4⟩ := one_row (show w'.ownsRow w.heap.size 61 4 u 1 [.int .i64 35, .int .i64 0, .int .i64 8, .bool true] from hrow)
  exact ⟨g, cap, rfl, ⟨h1, h2, h3, h4⟩, h.below hb, hb⟩
set_option maxRecDepth 100000 in
set_option maxHeartbeats 4000000 in
theorem works30 : Works30 := by
  intro w
  go_enter Try.func5, Try.ntmps5
  go_wp2_with (first
    | (go_at_call 13; refine (newPt _).mono ?_; rintro e w1 ⟨rfl, rfl⟩; have hT1 := newTab w)
    | (go_at_call 19; refine (ctl_new _).mono ?_; rintro e w2 ⟨c, F, rfl, hC2, hF, hb2⟩; have hT2 := hT1.below hb2; have hs2 := hb2.size; simp only [World.size_alloc] at hs2 hF)
    | (go_at_call 6; have hX := hT4; clear hX; go_loud (refine (add_V hT4 ?_).mono ?_; · exact qV_at _ rfl rfl rfl rfl rfl); rintro e w6 ⟨rfl, hK6, hT6⟩)
    | (go_at_call 6; go_loud (refine (add_W (c := c) (F := F) hT2 ?_).mono ?_; · exact qW_at _ rfl rfl rfl rfl rfl); rintro e w4 ⟨rfl, hK4, hT4⟩)
    | (go_at_call 10; have hFb : ∀ k ∈ F, k ≠ w.heap.size := (fun k hk => by have := hF k hk; omega); have hC4 := ctl_keeps (hC2.below (below_one _ _)) hK4 hFb; have hC6 := ctl_keeps (hC4.below (below_one _ _)) hK6 hFb; refine (choices_W hT6 hC6).mono ?_; rintro e w7 ⟨g, cap, rfl, ⟨g0, g1, g2, g3⟩, hT7, hb7⟩)
    | (go_at_call 15; refine (pl35 _).mono ?_; rintro e w8 ⟨rfl, hb8⟩; have hT8 := hT7.below hb8)
    | (go_at_call 7; refine (find_W hT8).mono ?_; rintro e w9 ⟨rfl, hb9⟩))
  go_ret
  refine ⟨rfl, ?_⟩
  have c1 : Below w.heap.size w ((w.alloc (.map #[] 0)).alloc (.cells #[.map (some w.heap.size)] 64)) := ((Below.refl _ _).alloc (Nat.le_refl _) _).alloc (by simp) _
  have c2 := c1.trans (hb2.mono c1.size)
  have d2 := c2.alloc c2.size (.cells #[.int .i64 2, .int .i64 3, .int .i64 2, .int .i64 0, .pointer none, .pointer (some ⟨c, 0, none⟩), .int .i64 0, .string ⟨#[]⟩, .int .i64 0, .int .i64 0, .int .i64 0, .int .i64 0, .int .i64 0, .int .i64 0, .int .i64 0, .int .i64 0] 34)
  have c4 := below_keeps d2 hK4 (Nat.le_refl _) d2.size
  have d4 := c4.alloc c4.size (.cells #[.int .i64 2, .int .i64 3, .int .i64 0, .int .i64 0, .pointer none, .pointer none, .int .i64 0, .string ⟨#[]⟩, .int .i64 0, .int .i64 0, .int .i64 0, .int .i64 0, .int .i64 0, .int .i64 0, .int .i64 0, .int .i64 0] 34)
  have c6 := below_keeps d4 hK6 (Nat.le_refl _) d4.size
  have c7 := c6.trans (hb7.mono c6.size)
  have c8 := c7.trans (hb8.mono c7.size)
  exact c8.trans (hb9.mono c8.size)
end Go.Proofs.Ytenngklohffoaaa

/- Paths: what a path's control says where the world is told. No conditions. -/
import Derived.Test.YtenngklohffoaaaPthZ
import Derived.Test.YtenngklohffoaaaPthV
namespace Go.Proofs.Ytenngklohffoaaa
set_option linter.unusedVariables false
set_option linter.unusedSimpArgs false
open Go.RowKit Sym Go.Maps Go.WideMaps Go.Sort Go.Lib

/-- a control under which se packets are under way; F: its blocks -/
def CtlAt (w : World) (x : Value) (se : Nat) (F : List Nat) : Prop :=
  ∃ c f d p cap, x = .pointer (some ⟨c, 0, none⟩) ∧ F = [c, f, d] ∧ w.cell? ⟨c, 1, none⟩ = some (.pointer (some ⟨f, 0, none⟩)) ∧
    w.cell? ⟨c, 2, none⟩ = some (.int .i64 3) ∧ w.cell? ⟨c, 3, none⟩ = some (.int .i64 16) ∧ w.cell? ⟨c, 4, none⟩ = some (.int .i64 0) ∧ w.cell? ⟨c, 5, none⟩ = some (.bool false) ∧ w.cell? ⟨c, 6, none⟩ = some (.int .i64 0) ∧
    w.cell? ⟨c, 9, none⟩ = some (.int .i64 0) ∧ w.cell? ⟨c, 10, none⟩ = some (.int .i64 0) ∧ w.cell? ⟨c, 11, none⟩ = some (.int .i64 0) ∧ w.cell? ⟨c, 12, none⟩ = some (.bool false) ∧
    w.cell? ⟨f, 0, none⟩ = some (.pointer (some ⟨d, 0, none⟩)) ∧ w.cell? ⟨d, 0, none⟩ = some (.slice p se cap)
theorem CtlAt.kept {w w' : World} {x : Value} {se : Nat} {F : List Nat} (h : CtlAt w x se F) (hb : ∀ k ∈ F, w'.heap[k]? = w.heap[k]?) : CtlAt w' x se F := by
  obtain ⟨c, f, d, p, cap, hx, rfl, h1, h2, h3, h4, h5, h6, h9, h10, h11, h12, hf, hd⟩ := h
  have k1 : ∀ j : Nat, w'.cell? ⟨c, j, none⟩ = w.cell? ⟨c, j, none⟩ := fun j => World.cell?_of_block (a := ⟨c, j, none⟩) (hb c (by simp))
  have k2 : ∀ j : Nat, w'.cell? ⟨f, j, none⟩ = w.cell? ⟨f, j, none⟩ := fun j => World.cell?_of_block (a := ⟨f, j, none⟩) (hb f (by simp))
  have k3 : ∀ j : Nat, w'.cell? ⟨d, j, none⟩ = w.cell? ⟨d, j, none⟩ := fun j => World.cell?_of_block (a := ⟨d, j, none⟩) (hb d (by simp))
  exact ⟨c, f, d, p, cap, hx, rfl, (k1 1).trans h1, (k1 2).trans h2, (k1 3).trans h3, (k1 4).trans h4, (k1 5).trans h5, (k1 6).trans h6, (k1 9).trans h9, (k1 10).trans h10, (k1 11).trans h11, (k1 12).trans h12, (k2 0).trans hf, (k3 0).trans hd⟩
theorem CtlAt.lt {w : World} {x : Value} {se : Nat} {F : List Nat} (h : CtlAt w x se F) : ∀ k ∈ F, k < w.heap.size := by
  obtain ⟨c, f, d, p, cap, hx, rfl, h1, h2, h3, h4, h5, h6, h9, h10, h11, h12, hf, hd⟩ := h
  intro k hk
  rcases List.mem_cons.1 hk with rfl | hk
  · exact lt_of_cell h1
  rcases List.mem_cons.1 hk with rfl | hk
  · exact lt_of_cell hf
  rcases List.mem_cons.1 hk with rfl | hk
  · exact lt_of_cell hd
  · cases hk
theorem CtlAt.below {w w' : World} {x : Value} {se : Nat} {F : List Nat} (h : CtlAt w x se F) (hb : Below w.heap.size w w') : CtlAt w' x se F := h.kept fun k hk => hb.block k (h.lt k hk)
theorem len_at {d : Nat} {p : Option Addr} {n cap : Nat} {w : World} (hd : w.cell? ⟨d, 0, none⟩ = some (.slice p n cap)) : Calls Try.prog 64 #[.pointer (some ⟨d, 0, none⟩)] w fun e w' => e = .returned (.int .i64 n) ∧ w = w' := by
  go_enter Try.func64, Try.ntmps64
  go_wp2
  go_ret
  exact ⟨rfl, rfl⟩
set_option maxHeartbeats 2000000 in
set_option maxRecDepth 100000 in
theorem fpipe_at {f d : Nat} {p : Option Addr} {n cap : Nat} {w : World} (hf : w.cell? ⟨f, 0, none⟩ = some (.pointer (some ⟨d, 0, none⟩))) (hd : w.cell? ⟨d, 0, none⟩ = some (.slice p n cap)) : Calls Try.prog 55 #[.pointer (some ⟨f, 0, none⟩)] w fun e w' => e = .returned (.int .i64 n) ∧ w = w' := by
  go_enter Try.func55, Try.ntmps55
  go_wp2_with (go_at_call 64; refine (len_at hd).mono ?_; rintro e w1 ⟨rfl, rfl⟩)
  go_ret
  exact ⟨rfl, rfl⟩
set_option maxHeartbeats 2000000 in
set_option maxRecDepth 100000 in
theorem pipe_at {w : World} {x : Value} {se : Nat} {F : List Nat} (h : CtlAt w x se F) : Calls Try.prog 39 #[x] w fun e w' => e = .returned (.int .i64 se) ∧ w = w' := by
  obtain ⟨c, f, d, p, cap, rfl, rfl, h1, h2, h3, h4, h5, h6, h9, h10, h11, h12, hf, hd⟩ := h
  go_enter Try.func39, Try.ntmps39
  go_wp2_with (go_at_call 55; refine (fpipe_at hf hd).mono ?_; rintro e w1 ⟨rfl, rfl⟩)
  go_ret
  exact ⟨rfl, rfl⟩
set_option maxRecDepth 100000 in
theorem size_run  : runV Try.prog (onlyS Try.prog (SSz1 Try.prog ⟨Try.f31, Try.f32, Try.f44, Try.f33, Try.f43, Try.f19, Try.f23, Try.f24, Try.f37, Try.f39, Try.f40, Try.f55, Try.f64, Try.f56, Try.f65⟩)) noL Try.f56 [.agg #[.int .i64 3, .int .i64 16, .int .i64 0, .bool false, .int .i64 0]] = .ite false (.leaf (Value.int IntKind.i64 3)) (.leaf (Value.int IntKind.i64 3)) := by kernel_rfl
theorem size_at (w : World) : Calls Try.prog 56 #[.agg #[.int .i64 3, .int .i64 16, .int .i64 0, .bool false, .int .i64 0]] w fun e w' => e = .returned (.int .i64 3) ∧ Below w.heap.size w w' := by
  refine calls_runV (onlyS_ok SSz1_ok) follows Try.func56 (by kernel_rfl) (by kernel_rfl) (noloops (by kernel_rfl)) size_run ?_ w
  exact t_ite (fun h => by cases h) (fun _ => t_leaf rfl)
set_option maxHeartbeats 2000000 in
set_option maxRecDepth 100000 in
theorem window_at {w : World} {x : Value} {se : Nat} {F : List Nat} (h : CtlAt w x se F) : Calls Try.prog 40 #[x] w fun e w' => e = .returned (.int .i64 3) ∧ Below w.heap.size w w' := by
  obtain ⟨c, f, d, p, cap, rfl, rfl, h1, h2, h3, h4, h5, h6, h9, h10, h11, h12, hf, hd⟩ := h
  go_enter Try.func40, Try.ntmps40
  go_wp2_with (go_at_call 56; refine (size_at _).mono ?_; rintro e w1 ⟨rfl, hb⟩)
  go_ret
  exact ⟨rfl, hb⟩
set_option maxHeartbeats 2000000 in
set_option maxRecDepth 100000 in
theorem room_at {w : World} {x : Value} {se : Nat} {F : List Nat} (h : CtlAt w x se F) : Calls Try.prog 24 #[x] w fun e w' => e = .returned (.bool (decide ((se : Int) < 3))) ∧ Below w.heap.size w w' := by
  go_enter Try.func24, Try.ntmps24
  go_wp2_with (first | (go_at_call 39; refine (pipe_at h).mono ?_; rintro e w1 ⟨rfl, rfl⟩) | (go_at_call 40; refine (window_at h).mono ?_; rintro e w1 ⟨rfl, hb⟩))
  go_ret
  exact ⟨rfl, hb⟩
theorem known_at (s v l : Int) (k : Bool) (w : World) : Calls Try.prog 37 #[.agg #[.int .i64 s, .int .i64 v, .int .i64 l, .bool k]] w fun e w' => e = .returned (.bool k) ∧ Below w.heap.size w w' := by
  go_enter Try.func37, Try.ntmps37
  go_wp2
  go_ret
  exact ⟨rfl, (Below.refl _ _).alloc (Nat.le_refl _) _⟩
set_option maxHeartbeats 2000000 in
set_option maxRecDepth 100000 in
theorem trip_at {w : World} {x : Value} {se : Nat} {F : List Nat} (h : CtlAt w x se F) : Calls Try.prog 23 #[x] w fun e w' => e = .returned (.int .i64 8) ∧ Below w.heap.size w w' := by
  obtain ⟨c, f, d, p, cap, rfl, rfl, h1, h2, h3, h4, h5, h6, h9, h10, h11, h12, hf, hd⟩ := h
  go_enter Try.func23, Try.ntmps23
  go_wp2_with (go_at_call 37; refine (known_at _ _ _ _ _).mono ?_; rintro e w1 ⟨rfl, hb⟩)
  go_ret
  exact ⟨rfl, hb⟩
end Go.Proofs.Ytenngklohffoaaa

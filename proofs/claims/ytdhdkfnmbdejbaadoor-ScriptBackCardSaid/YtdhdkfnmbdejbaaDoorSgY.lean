/- The statement that what is written is read, walked. No conditions but that the library's table reads as it is laid. -/
import Derived.Test.YtdhdkfnmbdejbaaDoorSgW
import Derived.Test.YtdhdkfnmbdejbaaDoorSgQ
import Derived.Test.YtdhdkfnmbdejbaaDoorSgO
namespace Go.Proofs.YtdhdkfnmbdejbaaDoor
set_option linter.unusedVariables false
set_option linter.unusedSimpArgs false
open Go.RowKit

theorem fold_take {x a0 : ActP} {fs : List UInt8} {i : Nat} (h : i < fs.length) : (fs.take (i + 1)).foldl (setF x) a0 = setF x ((fs.take i).foldl (setF x) a0) fs[i] := by
  rw [list_take_succ h, List.foldl_append]
  rfl
def KindIs (m : Nat) (x : ActP) : Prop := x.k = (m : Int) + 1
theorem mod15 (n : Nat) : Int.tmod (n : Int) 15 = ((n % 15 : Nat) : Int) := rfl
set_option maxRecDepth 100000 in
set_option maxHeartbeats 16000000 in
theorem back_long {w : World} (kd n0 n1 n2 : Nat) (side : Bool) (data : ByteArray) (ht : TabW w) (h700 : (700 : Int) < (data.size : Int)) :
    Calls Tryd.prog 4 #[.int .u8 kd, .bool side, .agg #[.int .u32 n0, .int .u32 n1, .int .u32 n2], .string data] w fun e w' => e = .returned (.bool true) ∧ Below w.heap.size w w' := by
  have hwk := fun W hW => works_any W hW
  go_enter Tryd.func4, Tryd.ntmps4
  go_wp2_with (go_at_call 6; (with_reducible refine (hwk _ (ht.below (below_alloc (Below.refl _ w) _))).mono ?_); rintro e w1 ⟨rfl, hb1⟩; have hb2 : Below w.heap.size w w1 := (below_alloc (Below.refl _ w) _).trans (hb1.mono (by simp)))
  go_ret
  exact ⟨rfl, hb2⟩
set_option maxRecDepth 100000 in
set_option maxHeartbeats 16000000 in
theorem back_true {w : World} (kd n0 n1 n2 : Nat) (hkd : kd < 256) (h0 : n0 < 4294967296) (h1 : n1 < 4294967296) (h2 : n2 < 4294967296) (data : ByteArray) (ht : TabW w) (h700 : ¬ (700 : Int) < (data.size : Int)) :
    Calls Tryd.prog 4 #[.int .u8 kd, .bool true, .agg #[.int .u32 n0, .int .u32 n1, .int .u32 n2], .string data] w fun e w' => e = .returned (.bool true) ∧ Below w.heap.size w w' := by
  have hwk := fun W hW => works_any W hW
  have hmod := mod15 kd
  have hm15 : kd % 15 < 15 := Nat.mod_lt _ (by decide)
  generalize kd % 15 = m at hmod hm15
  obtain ⟨x, hxe⟩ : ∃ x : ActP, x = ⟨(m : Int) + 1, 1, n0, n1, n2, data⟩ := ⟨_, rfl⟩
  have hxn : ActN x := by
    subst hxe
    exact ⟨⟨by dsimp only; omega, by dsimp only; omega⟩, by simp, ⟨n0, by omega, rfl⟩, ⟨n1, by omega, rfl⟩, ⟨n2, by omega, rfl⟩, by dsimp only; omega⟩
  have hxi : ActIn x := by
    subst hxe
    exact ⟨⟨by dsimp only; omega, by dsimp only; omega⟩, ⟨by dsimp only; omega, by dsimp only; omega⟩, ⟨by dsimp only; omega, by dsimp only; omega⟩, by dsimp only; omega⟩
  have hpw := parse_write hxn
  have hFk := form_ok x.k
  have hfl := fldZ_len x.k
  have hfa := fldA_at m hm15
  have hxk : KindIs m x := by rw [hxe]; rfl
  have hxc : x.cs = #[.int .i64 ((m : Int) + 1), .int .i64 1, .int .i64 n0, .int .i64 n1, .int .i64 n2, .string data] := by rw [hxe]; rfl
  rw [show (m : Int) + 1 = x.k from hxk.symm] at hfa
  clear hxe
  have hcut := cut_up (fldZ x.k)
  have htx : ((tx (upL (fldZ x.k))).size : Int) = ((fldZ x.k).length : Int) := by rw [tx_size]; unfold upL; rw [List.length_map]
  have htn : (tx (upL (fldZ x.k))).size = (fldZ x.k).length := by rw [tx_size]; unfold upL; rw [List.length_map]
  generalize fldZ x.k = fs at hpw hFk hfl hfa hcut htx htn
  generalize tx (upL fs) = F at hfa hcut htx htn
  have i1 : (m : Int) < 15 := by omega
  go_enter Tryd.func4, Tryd.ntmps4
  go_wp2_with (first
    | (go_at_call 6; (with_reducible refine (hwk _ (ht.below (below_alloc (Below.refl _ w) _))).mono ?_); rintro e w1 ⟨rfl, hb1⟩; have hb2 : Below w.heap.size w w1 := (below_alloc (Below.refl _ w) _).trans (hb1.mono (by simp)); have hbox := own_below (own_new w #[.int .u32 n0, .int .u32 n1, .int .u32 n2] 31) hb1; have b0 := hbox.2.1 0; have b1 := hbox.2.1 1; have b2 := hbox.2.1 2))
  have hact0 := own_new w1 x.cs 23
  have hb3 : Below w.heap.size w (w1.alloc (.cells x.cs 23)) := below_alloc hb2 _
  rw [hxc] at hact0 hb3
  have hWs : (w1.alloc (.cells #[.int .i64 ((m : Int) + 1), .int .i64 1, .int .i64 n0, .int .i64 n1, .int .i64 n2, .string data] 23)).heap.size = w1.heap.size + 1 := by simp
  have hX := hb2.size
  clear hb1 b0 b1 b2 hbox hmod hwk
  generalize (w1.alloc (.cells #[.int .i64 ((m : Int) + 1), .int .i64 1, .int .i64 n0, .int .i64 n1, .int .i64 n2, .string data] 23)) = W at *
  rw [← hxc] at hact0
  obtain ⟨q0, q1, q2, q3, q4, q5, qf⟩ := ActAt.at hact0
  rw [show x.k = (m : Int) + 1 from hxk] at q0
  clear q1 q2 q3 q4 q5 qf
  have hwp : IntKind.i64.wrap (m : Int) = (m : Int) := IntWalk.i64_in _ (by omega)
  go_region_with (first
    | (go_at_call 11; (with_reducible refine (words_any _).mono ?_); rintro e w3 ⟨rfl, hw3⟩; have hx3 : ActAt w3 w1.heap.size x := (by rw [← hw3]; exact own_alloc (own_drew hact0) _); have hb4 : Below w.heap.size w w3 := (by rw [← hw3]; exact below_alloc (hb3.drew) _); have hD := ((own_new W.drew fldA 9).2.1 m).trans hfa; rw [hw3, show W.drew.heap.size = w1.heap.size + 1 from hWs] at hD; have hsz : w3.heap.size = w1.heap.size + 2 := (by rw [← hw3, World.size_alloc]; exact congrArg (· + 1) hWs); obtain ⟨r0, r1, r2, r3, r4, r5, rf⟩ := ActAt.at hx3; rw [show x.k = (m : Int) + 1 from hxk] at r0))

  · clear hD q0 hw3 r0 r1 r2 r3 r4 r5 rf hact0 hb3 hfa hwp hWs hxc
    obtain ⟨r0, r1, r2, r3, r4, r5, rf⟩ := ActAt.at hx3
    have hYs : w.heap.size ≤ w1.heap.size + 2 := by omega
    go_wp2
    clear r0 r1 r2 r3 r4 r5 rf
    go_loopg [12] fs.length (fun gf u12 wx => ∃ i : Nat, u12 = .int .i64 i ∧ i ≤ fs.length ∧ fs.length ≤ i + gf ∧ ActAt wx (w1.heap.size + 2) ((fs.take i).foldl (setF x) (ActP.of x.k)) ∧ ActAt wx w1.heap.size x ∧ Below w.heap.size w wx)
    case atStart => exact ⟨0, rfl, Nat.zero_le _, by omega, hsz ▸ own_new _ (ActP.of x.k).cs _, own_alloc hx3 _, below_alloc hb4 _⟩
    case round =>
      clear hx3 hb4 hsz
      obtain ⟨i, rfl, hi, hfu, hy, hx4, hb⟩ := hrel
      by_cases hlt : i < fs.length
      · obtain ⟨g', rfl⟩ : ∃ g', gk = g' + 1 := ⟨gk - 1, by omega⟩
        have hct := hcut i hlt
        have hfo := hFk i hlt
        have hst := fold_take (x := x) (a0 := ActP.of x.k) hlt
        generalize fs[i] = c at hct hfo hst
        generalize (fs.take i).foldl (setF x) (ActP.of x.k) = a at hy hst
        clear hcut hFk hpw hxn hxi ht
        obtain ⟨p0, p1, p2, p3, p4, p5, pf⟩ := ActAt.at hy
        obtain ⟨q0, q1, q2, q3, q4, q5, qf⟩ := ActAt.at hx4
        rcases hfo with ⟨hcs, hi0⟩ | hcs | hcs | hcs | hcs
        · clear hi0
          have hst2 : (fs.take (i + 1)).foldl (setF x) (ActP.of x.k) = { a with s := x.s } := by rw [hst, hcs]; rfl
          have hup : upC c = 83 := by rw [hcs]; rfl
          rw [hup] at hct
          have e83 : ((tx [83]).toList == [83]) = true := (eq_tx [83] [83]).trans rfl
          clear hst hup hcs hxk htn h700 hb2 hkd h0 h1 h2 i1 hm15
          go_wp2
          go_roundg g'
          case measure => omega
          case rel => exact ⟨i + 1, rfl, by omega, by omega, (by rw [hst2]; exact ActAt.set (a := a) hy rfl), own_set_other hx4 (by simp) _, hb.setCell hYs _⟩
        · have hst2 : (fs.take (i + 1)).foldl (setF x) (ActP.of x.k) = { a with x := x.x } := by rw [hst, hcs]; rfl
          have hup : upC c = 88 := by rw [hcs]; rfl
          rw [hup] at hct
          have e83 : ((tx [88]).toList == [83]) = false := (eq_tx [88] [83]).trans rfl
          have e88 : ((tx [88]).toList == [88]) = true := (eq_tx [88] [88]).trans rfl
          clear hst hup hcs hxk htn h700 hb2 hkd h0 h1 h2 i1 hm15
          go_wp2
          go_roundg g'
          case measure => omega
          case rel => exact ⟨i + 1, rfl, by omega, by omega, (by rw [hst2]; exact ActAt.set (a := a) hy rfl), own_set_other hx4 (by simp) _, hb.setCell hYs _⟩
        · have hst2 : (fs.take (i + 1)).foldl (setF x) (ActP.of x.k) = { a with y := x.y } := by rw [hst, hcs]; rfl
          have hup : upC c = 89 := by rw [hcs]; rfl
          rw [hup] at hct
          have e83 : ((tx [89]).toList == [83]) = false := (eq_tx [89] [83]).trans rfl
          have e88 : ((tx [89]).toList == [88]) = false := (eq_tx [89] [88]).trans rfl
          have e89 : ((tx [89]).toList == [89]) = true := (eq_tx [89] [89]).trans rfl
          clear hst hup hcs hxk htn h700 hb2 hkd h0 h1 h2 i1 hm15
          go_wp2
          go_roundg g'
          case measure => omega
          case rel => exact ⟨i + 1, rfl, by omega, by omega, (by rw [hst2]; exact ActAt.set (a := a) hy rfl), own_set_other hx4 (by simp) _, hb.setCell hYs _⟩
        · have hst2 : (fs.take (i + 1)).foldl (setF x) (ActP.of x.k) = { a with z := x.z } := by rw [hst, hcs]; rfl
          have hup : upC c = 90 := by rw [hcs]; rfl
          rw [hup] at hct
          have e83 : ((tx [90]).toList == [83]) = false := (eq_tx [90] [83]).trans rfl
          have e88 : ((tx [90]).toList == [88]) = false := (eq_tx [90] [88]).trans rfl
          have e89 : ((tx [90]).toList == [89]) = false := (eq_tx [90] [89]).trans rfl
          have e90 : ((tx [90]).toList == [90]) = true := (eq_tx [90] [90]).trans rfl
          clear hst hup hcs hxk htn h700 hb2 hkd h0 h1 h2 i1 hm15
          go_wp2
          go_roundg g'
          case measure => omega
          case rel => exact ⟨i + 1, rfl, by omega, by omega, (by rw [hst2]; exact ActAt.set (a := a) hy rfl), own_set_other hx4 (by simp) _, hb.setCell hYs _⟩
        · have hst2 : (fs.take (i + 1)).foldl (setF x) (ActP.of x.k) = { a with d := x.d } := by rw [hst, hcs]; rfl
          have hup : upC c = 68 := by rw [hcs]; rfl
          rw [hup] at hct
          have e83 : ((tx [68]).toList == [83]) = false := (eq_tx [68] [83]).trans rfl
          have e88 : ((tx [68]).toList == [88]) = false := (eq_tx [68] [88]).trans rfl
          have e89 : ((tx [68]).toList == [89]) = false := (eq_tx [68] [89]).trans rfl
          have e90 : ((tx [68]).toList == [90]) = false := (eq_tx [68] [90]).trans rfl
          have e68 : ((tx [68]).toList == [68]) = true := (eq_tx [68] [68]).trans rfl
          clear hst hup hcs hxk htn h700 hb2 hkd h0 h1 h2 i1 hm15
          go_wp2
          go_roundg g'
          case measure => omega
          case rel => exact ⟨i + 1, rfl, by omega, by omega, (by rw [hst2]; exact ActAt.set (a := a) hy rfl), own_set_other hx4 (by simp) _, hb.setCell hYs _⟩
      · obtain rfl : i = fs.length := by omega
        rw [List.take_length] at hy
        have hyz : ((fs.foldl (setF x) (ActP.of x.k), 0) : ActP × Int) = parseP (writeP x) := hpw.symm
        generalize fs.foldl (setF x) (ActP.of x.k) = y at *
        have hwr := fun W hW => write_any x hxi W hW
        have hpr := fun W => parse_any (writeP x) W
        rw [hpw] at hpr
        have hpr2 : ∀ W, Calls Tryd.prog 7 #[.string (writeP x)] W fun e w' => e = .returned (.tuple #[.agg #[.int .i64 y.k, .int .i64 y.s, .int .i64 y.x, .int .i64 y.y, .int .i64 y.z, .string y.d], .int .i64 0]) ∧ Below W.heap.size W w' := hpr
        clear hpr
        clear hcut hFk hpw hxn hyz
        generalize writeP x = L at *
        have hbs := hb.size
        obtain ⟨q0, q1, q2, q3, q4, q5, qf⟩ := ActAt.at hx4
        have ht4 := ht.below hb
        clear ht
        go_wp2_with (first
          | (go_at_call 9; (with_reducible refine (hwr _ ht4).mono ?_); rintro e w5 ⟨rfl, hb5⟩; have hy5 := own_below hy hb5; have hb6 := hb.trans (hb5.mono hbs))
          | (go_at_call 7; (with_reducible refine (hpr2 _).mono ?_); rintro e w7 ⟨rfl, hb7⟩; have hy7 := own_below hy5 hb7; have hb8 := hb6.trans (hb7.mono hb6.size); obtain ⟨p0, p1, p2, p3, p4, p5, pf⟩ := ActAt.at hy7; have h27 : w1.heap.size + 2 < w7.heap.size := lt_of_cell p0; have h28 : ¬ w1.heap.size + 2 = w7.heap.size := Nat.ne_of_lt h27; have h29 : ¬ w7.heap.size = w1.heap.size + 2 := fun e => h28 e.symm))
        go_ret
        exact ⟨rfl, below_alloc hb8 _⟩
  · clear hD q0 hw3 r0 r1 r2 r3 r4 r5 rf hact0 hb3 hfa hwp hWs hxc
    obtain ⟨r0, r1, r2, r3, r4, r5, rf⟩ := ActAt.at hx3
    have hYs : w.heap.size ≤ w1.heap.size + 2 := by omega
    go_wp2
    clear r0 r1 r2 r3 r4 r5 rf
    go_loopg [12] fs.length (fun gf u12 wx => ∃ i : Nat, u12 = .int .i64 i ∧ i ≤ fs.length ∧ fs.length ≤ i + gf ∧ ActAt wx (w1.heap.size + 2) ((fs.take i).foldl (setF x) (ActP.of x.k)) ∧ ActAt wx w1.heap.size x ∧ Below w.heap.size w wx)
    case atStart => exact ⟨0, rfl, Nat.zero_le _, by omega, hsz ▸ own_new _ (ActP.of x.k).cs _, own_alloc hx3 _, below_alloc hb4 _⟩
    case round =>
      clear hx3 hb4 hsz
      obtain ⟨i, rfl, hi, hfu, hy, hx4, hb⟩ := hrel
      by_cases hlt : i < fs.length
      · obtain ⟨g', rfl⟩ : ∃ g', gk = g' + 1 := ⟨gk - 1, by omega⟩
        have hct := hcut i hlt
        have hfo := hFk i hlt
        have hst := fold_take (x := x) (a0 := ActP.of x.k) hlt
        generalize fs[i] = c at hct hfo hst
        generalize (fs.take i).foldl (setF x) (ActP.of x.k) = a at hy hst
        clear hcut hFk hpw hxn hxi ht
        obtain ⟨p0, p1, p2, p3, p4, p5, pf⟩ := ActAt.at hy
        obtain ⟨q0, q1, q2, q3, q4, q5, qf⟩ := ActAt.at hx4
        rcases hfo with ⟨hcs, hi0⟩ | hcs | hcs | hcs | hcs
        · clear hi0
          have hst2 : (fs.take (i + 1)).foldl (setF x) (ActP.of x.k) = { a with s := x.s } := by rw [hst, hcs]; rfl
          have hup : upC c = 83 := by rw [hcs]; rfl
          rw [hup] at hct
          have e83 : ((tx [83]).toList == [83]) = true := (eq_tx [83] [83]).trans rfl
          clear hst hup hcs hxk htn h700 hb2 hkd h0 h1 h2 i1 hm15
          go_wp2
          go_roundg g'
          case measure => omega
          case rel => exact ⟨i + 1, rfl, by omega, by omega, (by rw [hst2]; exact ActAt.set (a := a) hy rfl), own_set_other hx4 (by simp) _, hb.setCell hYs _⟩
        · have hst2 : (fs.take (i + 1)).foldl (setF x) (ActP.of x.k) = { a with x := x.x } := by rw [hst, hcs]; rfl
          have hup : upC c = 88 := by rw [hcs]; rfl
          rw [hup] at hct
          have e83 : ((tx [88]).toList == [83]) = false := (eq_tx [88] [83]).trans rfl
          have e88 : ((tx [88]).toList == [88]) = true := (eq_tx [88] [88]).trans rfl
          clear hst hup hcs hxk htn h700 hb2 hkd h0 h1 h2 i1 hm15
          go_wp2
          go_roundg g'
          case measure => omega
          case rel => exact ⟨i + 1, rfl, by omega, by omega, (by rw [hst2]; exact ActAt.set (a := a) hy rfl), own_set_other hx4 (by simp) _, hb.setCell hYs _⟩
        · have hst2 : (fs.take (i + 1)).foldl (setF x) (ActP.of x.k) = { a with y := x.y } := by rw [hst, hcs]; rfl
          have hup : upC c = 89 := by rw [hcs]; rfl
          rw [hup] at hct
          have e83 : ((tx [89]).toList == [83]) = false := (eq_tx [89] [83]).trans rfl
          have e88 : ((tx [89]).toList == [88]) = false := (eq_tx [89] [88]).trans rfl
          have e89 : ((tx [89]).toList == [89]) = true := (eq_tx [89] [89]).trans rfl
          clear hst hup hcs hxk htn h700 hb2 hkd h0 h1 h2 i1 hm15
          go_wp2
          go_roundg g'
          case measure => omega
          case rel => exact ⟨i + 1, rfl, by omega, by omega, (by rw [hst2]; exact ActAt.set (a := a) hy rfl), own_set_other hx4 (by simp) _, hb.setCell hYs _⟩
        · have hst2 : (fs.take (i + 1)).foldl (setF x) (ActP.of x.k) = { a with z := x.z } := by rw [hst, hcs]; rfl
          have hup : upC c = 90 := by rw [hcs]; rfl
          rw [hup] at hct
          have e83 : ((tx [90]).toList == [83]) = false := (eq_tx [90] [83]).trans rfl
          have e88 : ((tx [90]).toList == [88]) = false := (eq_tx [90] [88]).trans rfl
          have e89 : ((tx [90]).toList == [89]) = false := (eq_tx [90] [89]).trans rfl
          have e90 : ((tx [90]).toList == [90]) = true := (eq_tx [90] [90]).trans rfl
          clear hst hup hcs hxk htn h700 hb2 hkd h0 h1 h2 i1 hm15
          go_wp2
          go_roundg g'
          case measure => omega
          case rel => exact ⟨i + 1, rfl, by omega, by omega, (by rw [hst2]; exact ActAt.set (a := a) hy rfl), own_set_other hx4 (by simp) _, hb.setCell hYs _⟩
        · have hst2 : (fs.take (i + 1)).foldl (setF x) (ActP.of x.k) = { a with d := x.d } := by rw [hst, hcs]; rfl
          have hup : upC c = 68 := by rw [hcs]; rfl
          rw [hup] at hct
          have e83 : ((tx [68]).toList == [83]) = false := (eq_tx [68] [83]).trans rfl
          have e88 : ((tx [68]).toList == [88]) = false := (eq_tx [68] [88]).trans rfl
          have e89 : ((tx [68]).toList == [89]) = false := (eq_tx [68] [89]).trans rfl
          have e90 : ((tx [68]).toList == [90]) = false := (eq_tx [68] [90]).trans rfl
          have e68 : ((tx [68]).toList == [68]) = true := (eq_tx [68] [68]).trans rfl
          clear hst hup hcs hxk htn h700 hb2 hkd h0 h1 h2 i1 hm15
          go_wp2
          go_roundg g'
          case measure => omega
          case rel => exact ⟨i + 1, rfl, by omega, by omega, (by rw [hst2]; exact ActAt.set (a := a) hy rfl), own_set_other hx4 (by simp) _, hb.setCell hYs _⟩
      · obtain rfl : i = fs.length := by omega
        rw [List.take_length] at hy
        have hyz : ((fs.foldl (setF x) (ActP.of x.k), 0) : ActP × Int) = parseP (writeP x) := hpw.symm
        generalize fs.foldl (setF x) (ActP.of x.k) = y at *
        have hwr := fun W hW => write_any x hxi W hW
        have hpr := fun W => parse_any (writeP x) W
        rw [hpw] at hpr
        have hpr2 : ∀ W, Calls Tryd.prog 7 #[.string (writeP x)] W fun e w' => e = .returned (.tuple #[.agg #[.int .i64 y.k, .int .i64 y.s, .int .i64 y.x, .int .i64 y.y, .int .i64 y.z, .string y.d], .int .i64 0]) ∧ Below W.heap.size W w' := hpr
        clear hpr
        clear hcut hFk hpw hxn hyz
        generalize writeP x = L at *
        have hbs := hb.size
        obtain ⟨q0, q1, q2, q3, q4, q5, qf⟩ := ActAt.at hx4
        have ht4 := ht.below hb
        clear ht
        go_wp2_with (first
          | (go_at_call 9; (with_reducible refine (hwr _ ht4).mono ?_); rintro e w5 ⟨rfl, hb5⟩; have hy5 := own_below hy hb5; have hb6 := hb.trans (hb5.mono hbs))
          | (go_at_call 7; (with_reducible refine (hpr2 _).mono ?_); rintro e w7 ⟨rfl, hb7⟩; have hy7 := own_below hy5 hb7; have hb8 := hb6.trans (hb7.mono hb6.size); obtain ⟨p0, p1, p2, p3, p4, p5, pf⟩ := ActAt.at hy7; have h27 : w1.heap.size + 2 < w7.heap.size := lt_of_cell p0; have h28 : ¬ w1.heap.size + 2 = w7.heap.size := Nat.ne_of_lt h27; have h29 : ¬ w7.heap.size = w1.heap.size + 2 := fun e => h28 e.symm))
        go_ret
        exact ⟨rfl, below_alloc hb8 _⟩

set_option maxRecDepth 100000 in
set_option maxHeartbeats 16000000 in
theorem back_false {w : World} (kd n0 n1 n2 : Nat) (hkd : kd < 256) (h0 : n0 < 4294967296) (h1 : n1 < 4294967296) (h2 : n2 < 4294967296) (data : ByteArray) (ht : TabW w) (h700 : ¬ (700 : Int) < (data.size : Int)) :
    Calls Tryd.prog 4 #[.int .u8 kd, .bool false, .agg #[.int .u32 n0, .int .u32 n1, .int .u32 n2], .string data] w fun e w' => e = .returned (.bool true) ∧ Below w.heap.size w w' := by
  have hwk := fun W hW => works_any W hW
  have hmod := mod15 kd
  have hm15 : kd % 15 < 15 := Nat.mod_lt _ (by decide)
  generalize kd % 15 = m at hmod hm15
  obtain ⟨x, hxe⟩ : ∃ x : ActP, x = ⟨(m : Int) + 1, 0, n0, n1, n2, data⟩ := ⟨_, rfl⟩
  have hxn : ActN x := by
    subst hxe
    exact ⟨⟨by dsimp only; omega, by dsimp only; omega⟩, by simp, ⟨n0, by omega, rfl⟩, ⟨n1, by omega, rfl⟩, ⟨n2, by omega, rfl⟩, by dsimp only; omega⟩
  have hxi : ActIn x := by
    subst hxe
    exact ⟨⟨by dsimp only; omega, by dsimp only; omega⟩, ⟨by dsimp only; omega, by dsimp only; omega⟩, ⟨by dsimp only; omega, by dsimp only; omega⟩, by dsimp only; omega⟩
  have hpw := parse_write hxn
  have hFk := form_ok x.k
  have hfl := fldZ_len x.k
  have hfa := fldA_at m hm15
  have hxk : KindIs m x := by rw [hxe]; rfl
  have hxc : x.cs = #[.int .i64 ((m : Int) + 1), .int .i64 0, .int .i64 n0, .int .i64 n1, .int .i64 n2, .string data] := by rw [hxe]; rfl
  rw [show (m : Int) + 1 = x.k from hxk.symm] at hfa
  clear hxe
  have hcut := cut_up (fldZ x.k)
  have htx : ((tx (upL (fldZ x.k))).size : Int) = ((fldZ x.k).length : Int) := by rw [tx_size]; unfold upL; rw [List.length_map]
  have htn : (tx (upL (fldZ x.k))).size = (fldZ x.k).length := by rw [tx_size]; unfold upL; rw [List.length_map]
  generalize fldZ x.k = fs at hpw hFk hfl hfa hcut htx htn
  generalize tx (upL fs) = F at hfa hcut htx htn
  have i1 : (m : Int) < 15 := by omega
  go_enter Tryd.func4, Tryd.ntmps4
  go_wp2_with (first
    | (go_at_call 6; (with_reducible refine (hwk _ (ht.below (below_alloc (Below.refl _ w) _))).mono ?_); rintro e w1 ⟨rfl, hb1⟩; have hb2 : Below w.heap.size w w1 := (below_alloc (Below.refl _ w) _).trans (hb1.mono (by simp)); have hbox := own_below (own_new w #[.int .u32 n0, .int .u32 n1, .int .u32 n2] 31) hb1; have b0 := hbox.2.1 0; have b1 := hbox.2.1 1; have b2 := hbox.2.1 2))
  have hact0 := own_new w1 x.cs 23
  have hb3 : Below w.heap.size w (w1.alloc (.cells x.cs 23)) := below_alloc hb2 _
  rw [hxc] at hact0 hb3
  have hWs : (w1.alloc (.cells #[.int .i64 ((m : Int) + 1), .int .i64 0, .int .i64 n0, .int .i64 n1, .int .i64 n2, .string data] 23)).heap.size = w1.heap.size + 1 := by simp
  have hX := hb2.size
  clear hb1 b0 b1 b2 hbox hmod hwk
  generalize (w1.alloc (.cells #[.int .i64 ((m : Int) + 1), .int .i64 0, .int .i64 n0, .int .i64 n1, .int .i64 n2, .string data] 23)) = W at *
  rw [← hxc] at hact0
  obtain ⟨q0, q1, q2, q3, q4, q5, qf⟩ := ActAt.at hact0
  rw [show x.k = (m : Int) + 1 from hxk] at q0
  clear q1 q2 q3 q4 q5 qf
  have hwp : IntKind.i64.wrap (m : Int) = (m : Int) := IntWalk.i64_in _ (by omega)
  go_region_with (first
    | (go_at_call 11; (with_reducible refine (words_any _).mono ?_); rintro e w3 ⟨rfl, hw3⟩; have hx3 : ActAt w3 w1.heap.size x := (by rw [← hw3]; exact own_alloc (own_drew hact0) _); have hb4 : Below w.heap.size w w3 := (by rw [← hw3]; exact below_alloc (hb3.drew) _); have hD := ((own_new W.drew fldA 9).2.1 m).trans hfa; rw [hw3, show W.drew.heap.size = w1.heap.size + 1 from hWs] at hD; have hsz : w3.heap.size = w1.heap.size + 2 := (by rw [← hw3, World.size_alloc]; exact congrArg (· + 1) hWs); obtain ⟨r0, r1, r2, r3, r4, r5, rf⟩ := ActAt.at hx3; rw [show x.k = (m : Int) + 1 from hxk] at r0))

  · clear hD q0 hw3 r0 r1 r2 r3 r4 r5 rf hact0 hb3 hfa hwp hWs hxc
    obtain ⟨r0, r1, r2, r3, r4, r5, rf⟩ := ActAt.at hx3
    have hYs : w.heap.size ≤ w1.heap.size + 2 := by omega
    go_wp2
    clear r0 r1 r2 r3 r4 r5 rf
    go_loopg [12] fs.length (fun gf u12 wx => ∃ i : Nat, u12 = .int .i64 i ∧ i ≤ fs.length ∧ fs.length ≤ i + gf ∧ ActAt wx (w1.heap.size + 2) ((fs.take i).foldl (setF x) (ActP.of x.k)) ∧ ActAt wx w1.heap.size x ∧ Below w.heap.size w wx)
    case atStart => exact ⟨0, rfl, Nat.zero_le _, by omega, hsz ▸ own_new _ (ActP.of x.k).cs _, own_alloc hx3 _, below_alloc hb4 _⟩
    case round =>
      clear hx3 hb4 hsz
      obtain ⟨i, rfl, hi, hfu, hy, hx4, hb⟩ := hrel
      by_cases hlt : i < fs.length
      · obtain ⟨g', rfl⟩ : ∃ g', gk = g' + 1 := ⟨gk - 1, by omega⟩
        have hct := hcut i hlt
        have hfo := hFk i hlt
        have hst := fold_take (x := x) (a0 := ActP.of x.k) hlt
        generalize fs[i] = c at hct hfo hst
        generalize (fs.take i).foldl (setF x) (ActP.of x.k) = a at hy hst
        clear hcut hFk hpw hxn hxi ht
        obtain ⟨p0, p1, p2, p3, p4, p5, pf⟩ := ActAt.at hy
        obtain ⟨q0, q1, q2, q3, q4, q5, qf⟩ := ActAt.at hx4
        rcases hfo with ⟨hcs, hi0⟩ | hcs | hcs | hcs | hcs
        · clear hi0
          have hst2 : (fs.take (i + 1)).foldl (setF x) (ActP.of x.k) = { a with s := x.s } := by rw [hst, hcs]; rfl
          have hup : upC c = 83 := by rw [hcs]; rfl
          rw [hup] at hct
          have e83 : ((tx [83]).toList == [83]) = true := (eq_tx [83] [83]).trans rfl
          clear hst hup hcs hxk htn h700 hb2 hkd h0 h1 h2 i1 hm15
          go_wp2
          go_roundg g'
          case measure => omega
          case rel => exact ⟨i + 1, rfl, by omega, by omega, (by rw [hst2]; exact ActAt.set (a := a) hy rfl), own_set_other hx4 (by simp) _, hb.setCell hYs _⟩
        · have hst2 : (fs.take (i + 1)).foldl (setF x) (ActP.of x.k) = { a with x := x.x } := by rw [hst, hcs]; rfl
          have hup : upC c = 88 := by rw [hcs]; rfl
          rw [hup] at hct
          have e83 : ((tx [88]).toList == [83]) = false := (eq_tx [88] [83]).trans rfl
          have e88 : ((tx [88]).toList == [88]) = true := (eq_tx [88] [88]).trans rfl
          clear hst hup hcs hxk htn h700 hb2 hkd h0 h1 h2 i1 hm15
          go_wp2
          go_roundg g'
          case measure => omega
          case rel => exact ⟨i + 1, rfl, by omega, by omega, (by rw [hst2]; exact ActAt.set (a := a) hy rfl), own_set_other hx4 (by simp) _, hb.setCell hYs _⟩
        · have hst2 : (fs.take (i + 1)).foldl (setF x) (ActP.of x.k) = { a with y := x.y } := by rw [hst, hcs]; rfl
          have hup : upC c = 89 := by rw [hcs]; rfl
          rw [hup] at hct
          have e83 : ((tx [89]).toList == [83]) = false := (eq_tx [89] [83]).trans rfl
          have e88 : ((tx [89]).toList == [88]) = false := (eq_tx [89] [88]).trans rfl
          have e89 : ((tx [89]).toList == [89]) = true := (eq_tx [89] [89]).trans rfl
          clear hst hup hcs hxk htn h700 hb2 hkd h0 h1 h2 i1 hm15
          go_wp2
          go_roundg g'
          case measure => omega
          case rel => exact ⟨i + 1, rfl, by omega, by omega, (by rw [hst2]; exact ActAt.set (a := a) hy rfl), own_set_other hx4 (by simp) _, hb.setCell hYs _⟩
        · have hst2 : (fs.take (i + 1)).foldl (setF x) (ActP.of x.k) = { a with z := x.z } := by rw [hst, hcs]; rfl
          have hup : upC c = 90 := by rw [hcs]; rfl
          rw [hup] at hct
          have e83 : ((tx [90]).toList == [83]) = false := (eq_tx [90] [83]).trans rfl
          have e88 : ((tx [90]).toList == [88]) = false := (eq_tx [90] [88]).trans rfl
          have e89 : ((tx [90]).toList == [89]) = false := (eq_tx [90] [89]).trans rfl
          have e90 : ((tx [90]).toList == [90]) = true := (eq_tx [90] [90]).trans rfl
          clear hst hup hcs hxk htn h700 hb2 hkd h0 h1 h2 i1 hm15
          go_wp2
          go_roundg g'
          case measure => omega
          case rel => exact ⟨i + 1, rfl, by omega, by omega, (by rw [hst2]; exact ActAt.set (a := a) hy rfl), own_set_other hx4 (by simp) _, hb.setCell hYs _⟩
        · have hst2 : (fs.take (i + 1)).foldl (setF x) (ActP.of x.k) = { a with d := x.d } := by rw [hst, hcs]; rfl
          have hup : upC c = 68 := by rw [hcs]; rfl
          rw [hup] at hct
          have e83 : ((tx [68]).toList == [83]) = false := (eq_tx [68] [83]).trans rfl
          have e88 : ((tx [68]).toList == [88]) = false := (eq_tx [68] [88]).trans rfl
          have e89 : ((tx [68]).toList == [89]) = false := (eq_tx [68] [89]).trans rfl
          have e90 : ((tx [68]).toList == [90]) = false := (eq_tx [68] [90]).trans rfl
          have e68 : ((tx [68]).toList == [68]) = true := (eq_tx [68] [68]).trans rfl
          clear hst hup hcs hxk htn h700 hb2 hkd h0 h1 h2 i1 hm15
          go_wp2
          go_roundg g'
          case measure => omega
          case rel => exact ⟨i + 1, rfl, by omega, by omega, (by rw [hst2]; exact ActAt.set (a := a) hy rfl), own_set_other hx4 (by simp) _, hb.setCell hYs _⟩
      · obtain rfl : i = fs.length := by omega
        rw [List.take_length] at hy
        have hyz : ((fs.foldl (setF x) (ActP.of x.k), 0) : ActP × Int) = parseP (writeP x) := hpw.symm
        generalize fs.foldl (setF x) (ActP.of x.k) = y at *
        have hwr := fun W hW => write_any x hxi W hW
        have hpr := fun W => parse_any (writeP x) W
        rw [hpw] at hpr
        have hpr2 : ∀ W, Calls Tryd.prog 7 #[.string (writeP x)] W fun e w' => e = .returned (.tuple #[.agg #[.int .i64 y.k, .int .i64 y.s, .int .i64 y.x, .int .i64 y.y, .int .i64 y.z, .string y.d], .int .i64 0]) ∧ Below W.heap.size W w' := hpr
        clear hpr
        clear hcut hFk hpw hxn hyz
        generalize writeP x = L at *
        have hbs := hb.size
        obtain ⟨q0, q1, q2, q3, q4, q5, qf⟩ := ActAt.at hx4
        have ht4 := ht.below hb
        clear ht
        go_wp2_with (first
          | (go_at_call 9; (with_reducible refine (hwr _ ht4).mono ?_); rintro e w5 ⟨rfl, hb5⟩; have hy5 := own_below hy hb5; have hb6 := hb.trans (hb5.mono hbs))
          | (go_at_call 7; (with_reducible refine (hpr2 _).mono ?_); rintro e w7 ⟨rfl, hb7⟩; have hy7 := own_below hy5 hb7; have hb8 := hb6.trans (hb7.mono hb6.size); obtain ⟨p0, p1, p2, p3, p4, p5, pf⟩ := ActAt.at hy7; have h27 : w1.heap.size + 2 < w7.heap.size := lt_of_cell p0; have h28 : ¬ w1.heap.size + 2 = w7.heap.size := Nat.ne_of_lt h27; have h29 : ¬ w7.heap.size = w1.heap.size + 2 := fun e => h28 e.symm))
        go_ret
        exact ⟨rfl, below_alloc hb8 _⟩
  · clear hD q0 hw3 r0 r1 r2 r3 r4 r5 rf hact0 hb3 hfa hwp hWs hxc
    obtain ⟨r0, r1, r2, r3, r4, r5, rf⟩ := ActAt.at hx3
    have hYs : w.heap.size ≤ w1.heap.size + 2 := by omega
    go_wp2
    clear r0 r1 r2 r3 r4 r5 rf
    go_loopg [12] fs.length (fun gf u12 wx => ∃ i : Nat, u12 = .int .i64 i ∧ i ≤ fs.length ∧ fs.length ≤ i + gf ∧ ActAt wx (w1.heap.size + 2) ((fs.take i).foldl (setF x) (ActP.of x.k)) ∧ ActAt wx w1.heap.size x ∧ Below w.heap.size w wx)
    case atStart => exact ⟨0, rfl, Nat.zero_le _, by omega, hsz ▸ own_new _ (ActP.of x.k).cs _, own_alloc hx3 _, below_alloc hb4 _⟩
    case round =>
      clear hx3 hb4 hsz
      obtain ⟨i, rfl, hi, hfu, hy, hx4, hb⟩ := hrel
      by_cases hlt : i < fs.length
      · obtain ⟨g', rfl⟩ : ∃ g', gk = g' + 1 := ⟨gk - 1, by omega⟩
        have hct := hcut i hlt
        have hfo := hFk i hlt
        have hst := fold_take (x := x) (a0 := ActP.of x.k) hlt
        generalize fs[i] = c at hct hfo hst
        generalize (fs.take i).foldl (setF x) (ActP.of x.k) = a at hy hst
        clear hcut hFk hpw hxn hxi ht
        obtain ⟨p0, p1, p2, p3, p4, p5, pf⟩ := ActAt.at hy
        obtain ⟨q0, q1, q2, q3, q4, q5, qf⟩ := ActAt.at hx4
        rcases hfo with ⟨hcs, hi0⟩ | hcs | hcs | hcs | hcs
        · clear hi0
          have hst2 : (fs.take (i + 1)).foldl (setF x) (ActP.of x.k) = { a with s := x.s } := by rw [hst, hcs]; rfl
          have hup : upC c = 83 := by rw [hcs]; rfl
          rw [hup] at hct
          have e83 : ((tx [83]).toList == [83]) = true := (eq_tx [83] [83]).trans rfl
          clear hst hup hcs hxk htn h700 hb2 hkd h0 h1 h2 i1 hm15
          go_wp2
          go_roundg g'
          case measure => omega
          case rel => exact ⟨i + 1, rfl, by omega, by omega, (by rw [hst2]; exact ActAt.set (a := a) hy rfl), own_set_other hx4 (by simp) _, hb.setCell hYs _⟩
        · have hst2 : (fs.take (i + 1)).foldl (setF x) (ActP.of x.k) = { a with x := x.x } := by rw [hst, hcs]; rfl
          have hup : upC c = 88 := by rw [hcs]; rfl
          rw [hup] at hct
          have e83 : ((tx [88]).toList == [83]) = false := (eq_tx [88] [83]).trans rfl
          have e88 : ((tx [88]).toList == [88]) = true := (eq_tx [88] [88]).trans rfl
          clear hst hup hcs hxk htn h700 hb2 hkd h0 h1 h2 i1 hm15
          go_wp2
          go_roundg g'
          case measure => omega
          case rel => exact ⟨i + 1, rfl, by omega, by omega, (by rw [hst2]; exact ActAt.set (a := a) hy rfl), own_set_other hx4 (by simp) _, hb.setCell hYs _⟩
        · have hst2 : (fs.take (i + 1)).foldl (setF x) (ActP.of x.k) = { a with y := x.y } := by rw [hst, hcs]; rfl
          have hup : upC c = 89 := by rw [hcs]; rfl
          rw [hup] at hct
          have e83 : ((tx [89]).toList == [83]) = false := (eq_tx [89] [83]).trans rfl
          have e88 : ((tx [89]).toList == [88]) = false := (eq_tx [89] [88]).trans rfl
          have e89 : ((tx [89]).toList == [89]) = true := (eq_tx [89] [89]).trans rfl
          clear hst hup hcs hxk htn h700 hb2 hkd h0 h1 h2 i1 hm15
          go_wp2
          go_roundg g'
          case measure => omega
          case rel => exact ⟨i + 1, rfl, by omega, by omega, (by rw [hst2]; exact ActAt.set (a := a) hy rfl), own_set_other hx4 (by simp) _, hb.setCell hYs _⟩
        · have hst2 : (fs.take (i + 1)).foldl (setF x) (ActP.of x.k) = { a with z := x.z } := by rw [hst, hcs]; rfl
          have hup : upC c = 90 := by rw [hcs]; rfl
          rw [hup] at hct
          have e83 : ((tx [90]).toList == [83]) = false := (eq_tx [90] [83]).trans rfl
          have e88 : ((tx [90]).toList == [88]) = false := (eq_tx [90] [88]).trans rfl
          have e89 : ((tx [90]).toList == [89]) = false := (eq_tx [90] [89]).trans rfl
          have e90 : ((tx [90]).toList == [90]) = true := (eq_tx [90] [90]).trans rfl
          clear hst hup hcs hxk htn h700 hb2 hkd h0 h1 h2 i1 hm15
          go_wp2
          go_roundg g'
          case measure => omega
          case rel => exact ⟨i + 1, rfl, by omega, by omega, (by rw [hst2]; exact ActAt.set (a := a) hy rfl), own_set_other hx4 (by simp) _, hb.setCell hYs _⟩
        · have hst2 : (fs.take (i + 1)).foldl (setF x) (ActP.of x.k) = { a with d := x.d } := by rw [hst, hcs]; rfl
          have hup : upC c = 68 := by rw [hcs]; rfl
          rw [hup] at hct
          have e83 : ((tx [68]).toList == [83]) = false := (eq_tx [68] [83]).trans rfl
          have e88 : ((tx [68]).toList == [88]) = false := (eq_tx [68] [88]).trans rfl
          have e89 : ((tx [68]).toList == [89]) = false := (eq_tx [68] [89]).trans rfl
          have e90 : ((tx [68]).toList == [90]) = false := (eq_tx [68] [90]).trans rfl
          have e68 : ((tx [68]).toList == [68]) = true := (eq_tx [68] [68]).trans rfl
          clear hst hup hcs hxk htn h700 hb2 hkd h0 h1 h2 i1 hm15
          go_wp2
          go_roundg g'
          case measure => omega
          case rel => exact ⟨i + 1, rfl, by omega, by omega, (by rw [hst2]; exact ActAt.set (a := a) hy rfl), own_set_other hx4 (by simp) _, hb.setCell hYs _⟩
      · obtain rfl : i = fs.length := by omega
        rw [List.take_length] at hy
        have hyz : ((fs.foldl (setF x) (ActP.of x.k), 0) : ActP × Int) = parseP (writeP x) := hpw.symm
        generalize fs.foldl (setF x) (ActP.of x.k) = y at *
        have hwr := fun W hW => write_any x hxi W hW
        have hpr := fun W => parse_any (writeP x) W
        rw [hpw] at hpr
        have hpr2 : ∀ W, Calls Tryd.prog 7 #[.string (writeP x)] W fun e w' => e = .returned (.tuple #[.agg #[.int .i64 y.k, .int .i64 y.s, .int .i64 y.x, .int .i64 y.y, .int .i64 y.z, .string y.d], .int .i64 0]) ∧ Below W.heap.size W w' := hpr
        clear hpr
        clear hcut hFk hpw hxn hyz
        generalize writeP x = L at *
        have hbs := hb.size
        obtain ⟨q0, q1, q2, q3, q4, q5, qf⟩ := ActAt.at hx4
        have ht4 := ht.below hb
        clear ht
        go_wp2_with (first
          | (go_at_call 9; (with_reducible refine (hwr _ ht4).mono ?_); rintro e w5 ⟨rfl, hb5⟩; have hy5 := own_below hy hb5; have hb6 := hb.trans (hb5.mono hbs))
          | (go_at_call 7; (with_reducible refine (hpr2 _).mono ?_); rintro e w7 ⟨rfl, hb7⟩; have hy7 := own_below hy5 hb7; have hb8 := hb6.trans (hb7.mono hb6.size); obtain ⟨p0, p1, p2, p3, p4, p5, pf⟩ := ActAt.at hy7; have h27 : w1.heap.size + 2 < w7.heap.size := lt_of_cell p0; have h28 : ¬ w1.heap.size + 2 = w7.heap.size := Nat.ne_of_lt h27; have h29 : ¬ w7.heap.size = w1.heap.size + 2 := fun e => h28 e.symm))
        go_ret
        exact ⟨rfl, below_alloc hb8 _⟩

theorem back_any {w : World} (kd n0 n1 n2 : Nat) (hkd : kd < 256) (h0 : n0 < 4294967296) (h1 : n1 < 4294967296) (h2 : n2 < 4294967296) (side : Bool) (data : ByteArray) (ht : TabW w) :
    Calls Tryd.prog 4 #[.int .u8 kd, .bool side, .agg #[.int .u32 n0, .int .u32 n1, .int .u32 n2], .string data] w fun e w' => e = .returned (.bool true) ∧ Below w.heap.size w w' := by
  by_cases h700 : (700 : Int) < (data.size : Int)
  · exact back_long kd n0 n1 n2 side data ht h700
  · cases side with
    | true => exact back_true kd n0 n1 n2 hkd h0 h1 h2 data ht h700
    | false => exact back_false kd n0 n1 n2 hkd h0 h1 h2 data ht h700
end Go.Proofs.YtdhdkfnmbdejbaaDoor

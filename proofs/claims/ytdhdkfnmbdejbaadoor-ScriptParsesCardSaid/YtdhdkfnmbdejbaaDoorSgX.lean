/- The reference writes an act. No conditions but bounds on what is written. -/
import Derived.Test.YtdhdkfnmbdejbaaDoorSgO
import Derived.Test.YtdhdkfnmbdejbaaDoorSgP
import Derived.Deep.CutRange
import Derived.Deep.RegionWith
namespace Go.Proofs.YtdhdkfnmbdejbaaDoor
set_option linter.unusedVariables false
set_option linter.unusedSimpArgs false
open Go.RowKit

def KindAt (m : Nat) (k : Int) : Prop := k = (m : Int) + 1
theorem cat3 (T v : List UInt8) : tx T ++ tx [32] ++ tx v = tx (T ++ 32 :: v) := by
  rw [tx_append, tx_append, List.append_assoc]; rfl
theorem write_none {a : ActP} (h : ¬ (1 ≤ a.k ∧ a.k ≤ 15)) : writeP a = ⟨#[]⟩ := by
  unfold writeP cmdZ fldZ
  rw [if_neg h, if_neg h]
  rfl
set_option maxRecDepth 100000 in
set_option maxHeartbeats 16000000 in
theorem rwrite_any (a : ActP) (ha : ActIn a) (w : World) : Calls Tryd.prog 10 #[.agg #[.int .i64 a.k, .int .i64 a.s, .int .i64 a.x, .int .i64 a.y, .int .i64 a.z, .string a.d]] w fun e w' => e = .returned (.string (writeP a)) ∧ Below w.heap.size w w' := by
  obtain ⟨H, hH⟩ : ∃ H, writeP a = H := ⟨_, rfl⟩
  rw [hH]
  by_cases k1 : a.k < 1
  · have hv : H = ⟨#[]⟩ := by rw [← hH]; exact write_none (by omega)
    clear hH
    go_enter Tryd.func10, Tryd.ntmps10
    go_wp2
    go_ret
    exact ⟨by first | rfl | (rw [hv]; rfl), below_alloc (Below.refl _ _) _⟩
  by_cases k2 : 15 < a.k
  · have hv : H = ⟨#[]⟩ := by rw [← hH]; exact write_none (by omega)
    clear hH
    go_enter Tryd.func10, Tryd.ntmps10
    go_wp2
    go_ret
    exact ⟨by first | rfl | (rw [hv]; rfl), below_alloc (Below.refl _ _) _⟩
  obtain ⟨m, hm⟩ : ∃ m : Nat, a.k = (m : Int) + 1 := ⟨(a.k - 1).toNat, by omega⟩
  have hm15 : m < 15 := by omega
  have i1 : (m : Int) < 15 := by omega
  have hown0 := own_new w a.cs 23
  have hFk := form_ok a.k
  have hfl := fldZ_le a.k
  have hcl := cmdZ_len a.k
  have hfa := fldA_at m hm15
  have hca := cmdA_at m hm15
  rw [← hm] at hfa hca
  have hcu := cut_up (fldZ a.k)
  have htx : ((tx (upL (fldZ a.k))).size : Int) = ((fldZ a.k).length : Int) := by rw [tx_size]; unfold upL; rw [List.length_map]
  have hwr : H = tx (joinL (cmdZ a.k :: (fldZ a.k).map (wordOf a))) := by rw [← hH]; rfl
  have hwl := word_len a ha.2.2.2
  have w115 : wordOf a 115 = (nameL a.s).data.toList := rfl
  have w100 : wordOf a 100 = hexL a.d.data.toList := rfl
  have w120 : wordOf a 120 = ofL a.x := rfl
  have w121 : wordOf a 121 = ofL a.y := rfl
  have w122 : wordOf a 122 = ofL a.z := rfl
  have hnm := fun X => rname_any a.s X
  have hhx := fun X => rhex_any a.d (by have := ha.2.2.2; omega) X
  have hox := fun X => rof_any a.x ha.1.1 ha.1.2 X
  have hoy := fun X => rof_any a.y ha.2.1.1 ha.2.1.2 X
  have hoz := fun X => rof_any a.z ha.2.2.1.1 ha.2.2.1.2 X
  rw [← tx_list (nameL a.s)] at hnm
  clear hH ha
  generalize (nameL a.s).data.toList = v115 at w115 hnm
  generalize hexL a.d.data.toList = v100 at w100 hhx
  generalize ofL a.x = v120 at w120 hox
  generalize ofL a.y = v121 at w121 hoy
  generalize ofL a.z = v122 at w122 hoz
  generalize fldZ a.k = fs at *
  generalize cmdZ a.k = cm at *
  generalize tx (upL fs) = F at *
  generalize wordOf a = wd at *
  obtain ⟨ak, as_, ax, ay, az, adt⟩ := a
  dsimp only at *
  subst hm
  go_enter Tryd.func10, Tryd.ntmps10
  go_upto_region 3 with fail
  obtain ⟨q0, q1, q2, q3, q4, q5, qf⟩ := ActAt.at hown0
  dsimp only at q0
  clear q1 q2 q3 q4 q5 qf
  have hWs : (w.alloc (.cells (ActP.mk ((m : Int) + 1) as_ ax ay az adt).cs 23)).heap.size = w.heap.size + 1 := World.size_alloc _ _
  have hb0 : Below w.heap.size w (w.alloc (.cells (ActP.mk ((m : Int) + 1) as_ ax ay az adt).cs 23)) := below_alloc (Below.refl _ w) _
  change Code.wp _ _ _ _ (w.alloc (.cells (ActP.mk ((m : Int) + 1) as_ ax ay az adt).cs 23))
  generalize (w.alloc (.cells (ActP.mk ((m : Int) + 1) as_ ax ay az adt).cs 23)) = W at *
  have hwp : IntKind.i64.wrap (m : Int) = (m : Int) := IntWalk.i64_in _ (by omega)
  go_cut [3, 4] from 14 to 25 (fun s3 s4 wx => s3 = .string (tx cm) ∧ s4 = .string F ∧ ActAt wx w.heap.size (ActP.mk ((m : Int) + 1) as_ ax ay az adt) ∧ Below w.heap.size w wx)
  case first =>
    clear hwr hcu hwl w115 w100 w120 w121 w122 hnm hhx hox hoy hoz htx hFk hfl hcl k1 k2
    go_region_with (first
      | (go_at_call 24; (with_reducible refine (commands_any _).mono ?_); rintro e w3 ⟨rfl, hw3⟩; have hx3 := (show Own w3 w.heap.size (ActP.mk ((m : Int) + 1) as_ ax ay az adt).cs by rw [← hw3]; exact own_alloc (own_drew hown0) _); have hb3 : Below w.heap.size w w3 := (by rw [← hw3]; exact below_alloc (hb0.drew) _); have hC := ((own_new W.drew cmdA 9).2.1 m).trans hca; rw [hw3, show W.drew.heap.size = w.heap.size + 1 from hWs] at hC; have hsz : w3.heap.size = w.heap.size + 2 := (by rw [← hw3, World.size_alloc]; exact congrArg (· + 1) hWs); have r0 : w3.cell? ⟨w.heap.size, 0, none⟩ = some (.int .i64 ((m : Int) + 1)) := hx3.2.1 0)
      | (go_at_call 11; (with_reducible refine (words_any _).mono ?_); rintro e w4 ⟨rfl, hw4⟩; have hx4 := (show Own w4 w.heap.size (ActP.mk ((m : Int) + 1) as_ ax ay az adt).cs by rw [← hw4]; exact own_alloc hx3 _); have hb4 : Below w.heap.size w w4 := (by rw [← hw4]; exact below_alloc hb3 _); have hD := ((own_new w3 fldA 9).2.1 m).trans hfa; rw [hw4, hsz] at hD; have hC4 : w4.cell? ⟨w.heap.size + 1, m, none⟩ = some (.string (tx cm)) := (by rw [← hw4]; exact alloc_cell hC _); have r4 : w4.cell? ⟨w.heap.size, 0, none⟩ = some (.int .i64 ((m : Int) + 1)) := hx4.2.1 0))
    all_goals (go_wp2_with fail; go_meet; exact ⟨rfl, rfl, hx4, hb4⟩)
  case rest =>
    obtain ⟨rfl, rfl, hx, hb⟩ := hcut
    clear hown0 hWs hb0 hwp q0 hfa hca W k1 k2 hm15 i1
    go_wp2
    go_loopg [3, 5] fs.length (fun gf u3 u5 wx => ∃ i : Nat, u5 = .int .i64 i ∧ u3 = .string (tx (joinL (cm :: (fs.take i).map wd))) ∧ i ≤ fs.length ∧ fs.length ≤ i + gf ∧ ActAt wx w.heap.size (ActP.mk ((m : Int) + 1) as_ ax ay az adt) ∧ Below w.heap.size w wx)
    case atStart => exact ⟨0, rfl, by rw [joinL_cons]; simp, Nat.zero_le _, by omega, hx, hb⟩
    case round =>
      clear hx hb
      obtain ⟨i, rfl, rfl, hi, hfu, hx, hb⟩ := hrel
      by_cases hlt : i < fs.length
      · obtain ⟨g', rfl⟩ : ∃ g', gk = g' + 1 := ⟨gk - 1, by omega⟩
        have hct := hcu i hlt
        have hfo := hFk i hlt
        have hsn : joinL (cm :: (fs.take (i + 1)).map wd) = joinL (cm :: (fs.take i).map wd) ++ 32 :: wd fs[i] := by
          rw [list_take_succ hlt, List.map_append]; exact joinL_snoc _ _ _
        have hTl : (joinL (cm :: (fs.take i).map wd)).length ≤ 400000 := by
          have h1 := joinL_le 3000 cm ((fs.take i).map wd) hcl (fun y hy => by
            obtain ⟨c, _, rfl⟩ := List.mem_map.1 hy
            exact hwl c)
          rw [List.length_map, List.length_take] at h1
          have h2 : (min i fs.length + 1) * (3000 + 1) ≤ 101 * 3001 := Nat.mul_le_mul (by omega) (Nat.le_refl _)
          omega
        have hvl := hwl fs[i]
        generalize fs[i] = c at hct hfo hsn hvl
        generalize joinL (cm :: (fs.take i).map wd) = T at hsn hTl ⊢
        obtain ⟨q0, q1, q2, q3, q4, q5, qf⟩ := ActAt.at hx
        dsimp only at q0 q1 q2 q3 q4 q5
        have hbs := hb.size
        clear hcu hFk hwl hwr hcl
        rcases hfo with ⟨hcs, hi0⟩ | hcs | hcs | hcs | hcs

        · clear hi0
          subst hcs
          rw [w115] at hsn hvl
          rw [show upC 115 = 83 from rfl] at hct
          have e83 : ((tx [83]).toList == [83]) = true := (eq_tx [83] [83]).trans rfl
          have hz1 : ¬ 9223372036854775807 < (tx T).size + 1 := by rw [tx_size]; omega
          have hz2 : ¬ 9223372036854775807 < (tx T).size + 1 + (tx v115).size := by rw [tx_size, tx_size]; omega
          clear hox hoy hoz hhx w115 w120 w121 w122 w100 hTl hvl
          go_wp2_with (go_at_call 31; (with_reducible refine (hnm _).mono ?_); rintro e w1 ⟨rfl, hw⟩; obtain rfl := hw)
          go_roundg g'
          case measure => omega
          case rel => exact ⟨i + 1, rfl, by rw [hsn, ← cat3]; rfl, by omega, by omega, hx, hb⟩
        · subst hcs
          rw [w120] at hsn hvl
          rw [show upC 120 = 88 from rfl] at hct
          have e83 : ((tx [88]).toList == [83]) = false := (eq_tx [88] [83]).trans rfl
          have e88 : ((tx [88]).toList == [88]) = true := (eq_tx [88] [88]).trans rfl
          have hz1 : ¬ 9223372036854775807 < (tx T).size + 1 := by rw [tx_size]; omega
          have hz2 : ¬ 9223372036854775807 < (tx T).size + 1 + (tx v120).size := by rw [tx_size, tx_size]; omega
          clear hnm hoy hoz hhx w115 w120 w121 w122 w100 hTl hvl
          go_wp2_with (go_at_call 32; (with_reducible refine (hox _).mono ?_); rintro e w2 ⟨rfl, hb2⟩; have hx2 := own_below hx hb2; have hb3 := hb.trans (hb2.mono hbs))
          go_roundg g'
          case measure => omega
          case rel => exact ⟨i + 1, rfl, by rw [hsn, ← cat3]; rfl, by omega, by omega, hx2, hb3⟩
        · subst hcs
          rw [w121] at hsn hvl
          rw [show upC 121 = 89 from rfl] at hct
          have e83 : ((tx [89]).toList == [83]) = false := (eq_tx [89] [83]).trans rfl
          have e88 : ((tx [89]).toList == [88]) = false := (eq_tx [89] [88]).trans rfl
          have e89 : ((tx [89]).toList == [89]) = true := (eq_tx [89] [89]).trans rfl
          have hz1 : ¬ 9223372036854775807 < (tx T).size + 1 := by rw [tx_size]; omega
          have hz2 : ¬ 9223372036854775807 < (tx T).size + 1 + (tx v121).size := by rw [tx_size, tx_size]; omega
          clear hnm hox hoz hhx w115 w120 w121 w122 w100 hTl hvl
          go_wp2_with (go_at_call 32; (with_reducible refine (hoy _).mono ?_); rintro e w2 ⟨rfl, hb2⟩; have hx2 := own_below hx hb2; have hb3 := hb.trans (hb2.mono hbs))
          go_roundg g'
          case measure => omega
          case rel => exact ⟨i + 1, rfl, by rw [hsn, ← cat3]; rfl, by omega, by omega, hx2, hb3⟩
        · subst hcs
          rw [w122] at hsn hvl
          rw [show upC 122 = 90 from rfl] at hct
          have e83 : ((tx [90]).toList == [83]) = false := (eq_tx [90] [83]).trans rfl
          have e88 : ((tx [90]).toList == [88]) = false := (eq_tx [90] [88]).trans rfl
          have e89 : ((tx [90]).toList == [89]) = false := (eq_tx [90] [89]).trans rfl
          have e90 : ((tx [90]).toList == [90]) = true := (eq_tx [90] [90]).trans rfl
          have hz1 : ¬ 9223372036854775807 < (tx T).size + 1 := by rw [tx_size]; omega
          have hz2 : ¬ 9223372036854775807 < (tx T).size + 1 + (tx v122).size := by rw [tx_size, tx_size]; omega
          clear hnm hox hoy hhx w115 w120 w121 w122 w100 hTl hvl
          go_wp2_with (go_at_call 32; (with_reducible refine (hoz _).mono ?_); rintro e w2 ⟨rfl, hb2⟩; have hx2 := own_below hx hb2; have hb3 := hb.trans (hb2.mono hbs))
          go_roundg g'
          case measure => omega
          case rel => exact ⟨i + 1, rfl, by rw [hsn, ← cat3]; rfl, by omega, by omega, hx2, hb3⟩
        · subst hcs
          rw [w100] at hsn hvl
          rw [show upC 100 = 68 from rfl] at hct
          have e83 : ((tx [68]).toList == [83]) = false := (eq_tx [68] [83]).trans rfl
          have e88 : ((tx [68]).toList == [88]) = false := (eq_tx [68] [88]).trans rfl
          have e89 : ((tx [68]).toList == [89]) = false := (eq_tx [68] [89]).trans rfl
          have e90 : ((tx [68]).toList == [90]) = false := (eq_tx [68] [90]).trans rfl
          have e68 : ((tx [68]).toList == [68]) = true := (eq_tx [68] [68]).trans rfl
          have hz1 : ¬ 9223372036854775807 < (tx T).size + 1 := by rw [tx_size]; omega
          have hz2 : ¬ 9223372036854775807 < (tx T).size + 1 + (tx v100).size := by rw [tx_size, tx_size]; omega
          clear hnm hox hoy hoz w115 w120 w121 w122 w100 hTl hvl
          go_wp2_with (go_at_call 33; (with_reducible refine (hhx _).mono ?_); rintro e w2 ⟨rfl, hb2⟩; have hx2 := own_below hx hb2; have hb3 := hb.trans (hb2.mono hbs))
          go_roundg g'
          case measure => omega
          case rel => exact ⟨i + 1, rfl, by rw [hsn, ← cat3]; rfl, by omega, by omega, hx2, hb3⟩
      · obtain rfl : i = fs.length := by omega
        rw [List.take_length, ← hwr]
        go_wp2
        go_ret
        exact ⟨rfl, hb⟩
end Go.Proofs.YtdhdkfnmbdejbaaDoor

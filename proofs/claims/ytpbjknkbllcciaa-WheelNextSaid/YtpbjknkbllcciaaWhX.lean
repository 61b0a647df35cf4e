/- Timers: in pieces, as at once: the walk. No conditions. -/
import Derived.Test.YtpbjknkbllcciaaWhW
namespace Go.Proofs.Ytpbjknkbllcciaa
set_option linter.unusedVariables false
set_option linter.unusedSimpArgs false
open Go.RowKit Sym Go.Maps Go.Sort Go.Lib Go.ChangeShapes Go.WideShapes Go.ChangeMaps

theorem SWk_ok : TabOk Try.prog SWk := by
  refine addS_ok noS_ok (by kernel_rfl) ?_
  intro xs p v h hp w
  cases xs with
  | nil =>
    simp only [Option.some.injEq, Prod.mk.injEq] at h
    obtain ⟨-, rfl⟩ := h
    exact works13 w
  | cons => cases h
theorem CWp_ok : CfgOk Try.prog (CWp Try.prog whV ⟨Try.f8, Try.f12⟩) := both_ok SWk_ok FWl_ok
theorem vset (now : Int) (D : DataW Unit) (s : ByteArray) (t : Int) : whV.set now D s t = setD now D s t := rfl
theorem vdel (D : DataW Unit) (t : Int) : whV.del D t = delN D (dueN D t) := rfl
theorem vdue (D : DataW Unit) (t : Int) : whV.due D t = dueN D t := rfl
theorem vrow (D : DataW Unit) (t : Int) : whV.row D t = ((ordL D).take (dueN D t)).map encStr := rfl
theorem vnow (a b : Int) : whV.now a b = nowT a b := rfl
theorem vini (a : Int) : whV.ini a = iniT a := rfl
theorem vnxI (D : DataW Unit) : whV.nxI D = nextI D := rfl
theorem vnxB (D : DataW Unit) : whV.nxB D = nextB D := rfl
theorem vemp : whV.emp = .map [] := rfl
theorem vok (a : Int) (D : DataW Unit) : whV.ok a D = okW a D := rfl
/-! what is set -/
def dAt (now : Int) (g : Nat → Tm) : Nat → DataW Unit
  | 0 => .map []
  | i + 1 => setD now (dAt now g i) (g i).name (g i).n
theorem dAt_ok {now : Int} {g : Nat → Tm} (hn : 0 ≤ now ∧ now ≤ 1099511627776) (hg : ∀ i, (g i).name.size ≤ maxLen) : ∀ i, SD (dAt now g i) ∧ mSize (dAt now g i) ≤ 64 ∧ Fut now (dAt now g i)
  | 0 => ⟨.emp, by show (0 : Nat) ≤ 64; omega, fun x h => by cases h⟩
  | i + 1 => by
    obtain ⟨h1, h2, h3⟩ := dAt_ok hn hg i
    exact set_keeps h1 h2 h3 hn _ (hg i) _
def sumP (p : Nat → Int) : Nat → Int
  | 0 => 0
  | i + 1 => sumP p i + p i
theorem sumP_bd {p : Nat → Int} (hp : ∀ i, 0 ≤ p i ∧ p i ≤ 65535) : ∀ i : Nat, 0 ≤ sumP p i ∧ sumP p i ≤ 65535 * i
  | 0 => by unfold sumP; omega
  | i + 1 => by
    have := sumP_bd hp i
    have := hp i
    unfold sumP
    omega
theorem nowT_add {now a b : Int} (h : 0 ≤ now ∧ now ≤ 1099511627776) (ha : 0 ≤ a) (hb : 0 ≤ b) (hab : a + b ≤ 1073741824) : nowT (nowT now a) b = nowT now (a + b) := by unfold nowT; omega
theorem nowT_zero {now : Int} (h : 0 ≤ now ∧ now ≤ 1099511627776) : nowT now 0 = now := by unfold nowT; omega
theorem nowT_bd {now a : Int} (h : 0 ≤ now ∧ now ≤ 1099511627776) (ha : 0 ≤ a) : (0 ≤ nowT now a ∧ nowT now a ≤ 1099511627776) ∧ now ≤ nowT now a := by unfold nowT; omega
theorem nowT_mono {now a b : Int} (ha : 0 ≤ a) (hb : a ≤ b) : nowT now a ≤ nowT now b := by unfold nowT; omega
theorem one_strs (l : List (List UInt8)) : allOneP (l.map encStr) := by
  intro u hu
  obtain ⟨x, -, rfl⟩ := List.mem_map.1 hu
  rfl
theorem strs_all (l : List (List UInt8)) (hl : l.length ≤ maxLen) : AllStr l.length fun i j => cellAt (l.map encStr) (i * 1 + j) := by
  refine ⟨hl, fun i hi => ?_⟩
  have e : cellAt (l.map encStr) (i * 1 + 0) = encStr (l[i]'hi) := by
    unfold cellAt
    rw [show i * 1 + 0 = i by omega, List.getD_eq_getElem?_getD, List.getElem?_map, List.getElem?_eq_getElem hi]; rfl
  show cellAt (l.map encStr) (i * 1 + 0) = .string (strV (cellAt (l.map encStr) (i * 1 + 0)))
  rw [e]; rfl
/-! loop 0 -/
theorem wp_step {n m : Nat} {g : Nat → Tm} {p : Nat → Int} {now : Int} (hn : 0 ≤ now ∧ now ≤ 1099511627776) (hg : ∀ i, (g i).name.size ≤ maxLen) (hnm : n ≤ 60) : ∀ i : Nat, i ≤ n → i ≠ n → (roundM Try.prog (CWp Try.prog whV ⟨Try.f8, Try.f12⟩) noL Try.f3.ntmps 0 (loopAt Try.f3 0) 6 [1, 2, 7, 8, 9] [] [] (stP Try.prog n m g p now (dAt now g i) (dAt now g i) (i : Nat))).ok fun r => r.1 = .normal ∧ ∃ j, j ≤ n ∧ n - j < n - i ∧ r.2 = stP Try.prog n m g p now (dAt now g j) (dAt now g j) (j : Nat) := by
  intro i hi hne
  have hw : IntKind.i64.wrap ((i : Int) + 1) = ((i + 1 : Nat) : Int) := by rw [w64 _ (by omega) (by omega)]; rfl
  obtain ⟨h1, h2, h3⟩ := dAt_ok hn hg i
  have hk : okW now (dAt now g i) := okW_of h1 hn h2
  have hs := hg i
  unfold maxLen at hs
  rw [wp_round, hw]
  simp only [Int.toNat_natCast]
  have b1 : (0 : Int) ≤ (i : Int) ∧ (i : Int) < (n : Int) := by omega
  have b2 : i < n := by omega
  refine t_ite (fun _ => t_need b1 (t_need b2 (t_need b1 (t_need b2 (t_need ⟨trivial, hk, hs⟩ (t_need b1 (t_need b2 (t_need b1 (t_need b2 (t_need ⟨trivial, hk, hs⟩ (t_leaf ⟨rfl, i + 1, by omega, by omega, rfl⟩))))))))))) fun h => ?_
  have := of_decide_eq_false h; omega
/-! loop 2 -/
def stW (P : Program) (n m : Nat) (g : Nat → Tm) (p : Nat → Int) (now : Int) (D : DataW Unit) (i : Nat) : St := stQ P n m g p now (nowT now (sumP p i)) (atD D (nowT now (sumP p i))) D (dueN D (nowT now (sumP p i))) (((ordL D).take (dueN D (nowT now (sumP p i)))).map encStr) (sumP p i) (i : Nat)
set_option maxRecDepth 100000 in
theorem wp_step2 {n m : Nat} {g : Nat → Tm} {p : Nat → Int} {now : Int} {D : DataW Unit} (hn : 0 ≤ now ∧ now ≤ 1099511627776) (hD : SD D) (h64 : mSize D ≤ 64) (hp : ∀ i, 0 ≤ p i ∧ p i ≤ 65535) (hm : m ≤ 60) : ∀ i : Nat, i ≤ m → i ≠ m → (roundM Try.prog (CWp Try.prog whV ⟨Try.f8, Try.f12⟩) noL Try.f3.ntmps 2 (loopAt Try.f3 1) 6 [2, 7, 8, 11, 12] [(10, 9, 1)] [] (stW Try.prog n m g p now D i)).ok fun r => r.1 = .normal ∧ ∃ j, j ≤ m ∧ m - j < m - i ∧ r.2 = stW Try.prog n m g p now D j := by
  intro i hi hne
  have hsb := sumP_bd hp i
  have hpi := hp i
  have hw : IntKind.i64.wrap ((i : Int) + 1) = ((i + 1 : Nat) : Int) := by rw [w64 _ (by omega) (by omega)]; rfl
  have hwp : IntKind.i64.wrap (p i) = p i := w64 _ (by omega) (by omega)
  have hws : IntKind.i64.wrap (sumP p i + p i) = sumP p (i + 1) := w64 _ (by omega) (by omega)
  have ht : nowT (nowT now (sumP p i)) (p i) = nowT now (sumP p (i + 1)) := nowT_add hn hsb.1 hpi.1 (by omega)
  have hb0 := (nowT_bd hn hsb.1).1
  have hle : nowT now (sumP p i) ≤ nowT now (sumP p (i + 1)) := nowT_mono hsb.1 (by show _ ≤ sumP p i + p i; omega)
  have hk : okW (nowT now (sumP p i)) (atD D (nowT now (sumP p i))) := okW_at hD hb0 h64 _
  unfold stW
  rw [wp_round2, hw]
  simp only [Int.toNat_natCast, hwp, hws]
  have b1 : (0 : Int) ≤ (i : Int) ∧ (i : Int) < (m : Int) := by omega
  have b2 : i < m := by omega
  have hx := next_due (D := atD D (nowT now (sumP p i))) (nowT now (sumP p (i + 1)))
  have hnx := fun h => next_at hD (nowT now (sumP p i)) h
  have hrow := row_at hD hle
  have hdel := atD_at hD hle
  have hdue := dueN_at hD hle
  have hmono := dueN_mono (D := D) hle
  have hlen := (dueN_spec D (nowT now (sumP p (i + 1)))).1
  have hone := one_strs ((ordL (atD D (nowT now (sumP p i)))).take (dueN (atD D (nowT now (sumP p i))) (nowT now (sumP p (i + 1)))))
  have hol := hD.olen
  have hb : dueN D (nowT now (sumP p i)) + dueN (atD D (nowT now (sumP p i))) (nowT now (sumP p (i + 1))) = dueN D (nowT now (sumP p (i + 1))) := by omega
  simp only [vdel, vdue, vrow, vnow, vnxI, vnxB, vok, ht, hrow, hdel, hx, hb]
  have hbd : dueN D (nowT now (sumP p (i + 1))) ≤ 64 := by omega
  refine t_ite (fun _ => t_need ⟨trivial, hk⟩ (t_need b1 (t_need b2 (t_need ⟨trivial, hk⟩ (t_ite (fun hB => t_ite (fun h1 => ?_) fun h1 => t_ite (fun _ => t_ite (fun h2 => ?_) fun h2 => ?_) fun hB' => ?_) fun hB => t_ite (fun hB' => ?_) fun _ => t_ite (fun h2 => ?_) fun h2 => ?_))))) fun h => ?_
  · have := (hnx hB).2.2; have := of_decide_eq_true h1; omega
  · rw [hB, Bool.true_and] at h2; simp at h2
  · exact t_need ⟨by omega, by omega⟩ (t_need hone (t_need b1 (t_need b2 (t_leaf ⟨rfl, i + 1, by omega, by omega, rfl⟩))))
  · rw [hB] at hB'; cases hB'
  · rw [hB] at hB'; cases hB'
  · rw [hB, Bool.false_and] at h2; simp at h2
  · exact t_need ⟨by omega, by omega⟩ (t_need hone (t_need b1 (t_need b2 (t_leaf ⟨rfl, i + 1, by omega, by omega, rfl⟩))))
  · have := of_decide_eq_false h; omega
end Go.Proofs.Ytpbjknkbllcciaa

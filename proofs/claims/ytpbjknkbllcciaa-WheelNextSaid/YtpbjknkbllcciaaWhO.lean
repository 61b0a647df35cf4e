/- Timers: names that are single letters; the least of all. No program. No conditions. -/
import Derived.Test.YtpbjknkbllcciaaWhP
namespace Go.Proofs.Ytpbjknkbllcciaa
set_option linter.unusedVariables false
set_option linter.unusedSimpArgs false
open Go.RowKit Sym Go.Maps Go.Sort Go.Lib

def nmL (i : Nat) : List UInt8 := [UInt8.ofNat (65 + i)]
theorem nmL_inj {i j : Nat} (hi : i < 60) (hj : j < 60) (h : nmL i = nmL j) : i = j := by
  unfold nmL at h
  have h := congrArg UInt8.toNat (List.cons.inj h).1
  simp only [UInt8.toNat_ofNat'] at h
  omega
theorem setT0 {t : Int} (h : 0 ≤ t ∧ t ≤ 65535) : setT 0 t = max t 1 := by unfold setT; split <;> (try split) <;> omega
/-- timers set, one for each letter -/
structure WN (p : Nat → Int) (D : DataW Unit) (i : Nat) : Prop where
  sd : SD D
  sz : mSize D = i
  has : ∀ x, Maps.has D (.string x) = true ↔ ∃ j, j < i ∧ x = nmL j
  due : ∀ j, j < i → dueL D (nmL j) = max (p j) 1
theorem WN.zero (p : Nat → Int) : WN p (.map []) 0 := ⟨.emp, rfl, fun x => ⟨fun h => (by cases h), fun ⟨j, h, _⟩ => (by omega)⟩, fun j h => (by omega)⟩
theorem WN.new {p : Nat → Int} {D : DataW Unit} {i : Nat} (h : WN p D i) (hi : i < 60) : Maps.has D (.string (nmL i)) = false := by
  cases hh : Maps.has D (.string (nmL i))
  · rfl
  · obtain ⟨j, hj, e⟩ := (h.has _).1 hh
    have := nmL_inj hi (by omega) e
    omega
theorem wn_set {p : Nat → Int} {D : DataW Unit} {i : Nat} (h : WN p D i) (hi : i < 60) (hp : ∀ i, 0 ≤ p i ∧ p i ≤ 65535) (s : ByteArray) (hs : s.data.toList = nmL i) :
    WN p (setD 0 D s (p i)) (i + 1) ∧ mGet (setD 0 D s (p i)) s = max (p i) 1 ∧ mHas (setD 0 D s (p i)) s = true := by
  have hsz := h.sz
  have e : setD 0 D s (p i) = D.put (.string (nmL i)) (.lit (.int .i64 (max (p i) 1))) := by
    unfold setD
    rw [if_neg (fun hc => by have := hc.2; omega), setT0 (hp i)]
    unfold mPut mKey
    rw [hs]
  have hd : ∀ y, dueL (setD 0 D s (p i)) y = if y = nmL i then max (p i) 1 else dueL D y := fun y => by rw [e, dueL_put h.sd]
  have hh : ∀ y, Maps.has (setD 0 D s (p i)) (.string y) = (decide (y = nmL i) || Maps.has D (.string y)) := fun y => by rw [e, has_put h.sd]
  have hg : mGet (setD 0 D s (p i)) s = dueL (setD 0 D s (p i)) (nmL i) := by unfold mGet dueL mKey; rw [hs]
  have hm : mHas (setD 0 D s (p i)) s = Maps.has (setD 0 D s (p i)) (.string (nmL i)) := by unfold mHas mKey; rw [hs]
  refine ⟨⟨?_, ?_, fun x => ?_, fun j hj => ?_⟩, ?_, ?_⟩
  · rw [e]; exact h.sd.put _ (by show 1 ≤ maxLen; unfold maxLen; omega) _
  · rw [e]
    unfold mSize
    rw [size_put h.sd.tidy, h.new hi]
    have : Maps.size D = i := hsz
    simp [this]
  · rw [hh, Bool.or_eq_true, decide_eq_true_eq, h.has]
    constructor
    · rintro (rfl | ⟨j, hj, rfl⟩)
      · exact ⟨i, by omega, rfl⟩
      · exact ⟨j, by omega, rfl⟩
    · rintro ⟨j, hj, rfl⟩
      by_cases hji : j = i
      · subst hji; exact .inl rfl
      · exact .inr ⟨j, by omega, rfl⟩
  · rw [hd]
    by_cases hji : j = i
    · subst hji; rw [if_pos rfl]
    · rw [if_neg (fun e => hji (nmL_inj (by omega) hi e))]
      exact h.due j (by omega)
  · rw [hg, hd, if_pos rfl]
  · rw [hm, hh, decide_eq_true rfl, Bool.true_or]
def dMt (p : Nat → Int) (s : Nat → ByteArray) : Nat → DataW Unit
  | 0 => .map []
  | i + 1 => setD 0 (dMt p s i) (s i) (p i)
theorem dMt_ok {p : Nat → Int} {s : Nat → ByteArray} (hp : ∀ i, 0 ≤ p i ∧ p i ≤ 65535) (hs : ∀ i, i < 60 → (s i).data.toList = nmL i) : ∀ i, i ≤ 60 → WN p (dMt p s i) i
  | 0, _ => .zero p
  | i + 1, hi => (wn_set (dMt_ok hp hs i (by omega)) (by omega) hp _ (hs i (by omega))).1
/-- the least of all -/
def leastP (p : Nat → Int) : Nat → Int
  | 0 => 0
  | i + 1 => if i = 0 ∨ max (p i) 1 < leastP p i then max (p i) 1 else leastP p i
theorem leastP_ok (p : Nat → Int) : ∀ n, 0 < n → (∀ j, j < n → leastP p n ≤ max (p j) 1) ∧ ∃ j, j < n ∧ max (p j) 1 = leastP p n
  | 0, h => by omega
  | 1, _ => by
    refine ⟨fun j hj => ?_, 0, by omega, ?_⟩
    · obtain rfl : j = 0 := by omega
      unfold leastP; rw [if_pos (.inl rfl)]; exact Int.le_refl _
    · unfold leastP; rw [if_pos (.inl rfl)]
  | n + 2, _ => by
    obtain ⟨h1, k, h2, h3⟩ := leastP_ok p (n + 1) (by omega)
    have e : leastP p (n + 2) = if max (p (n + 1)) 1 < leastP p (n + 1) then max (p (n + 1)) 1 else leastP p (n + 1) := by
      show (if n + 1 = 0 ∨ _ then _ else _) = _
      simp
    rw [e]
    by_cases hc : max (p (n + 1)) 1 < leastP p (n + 1)
    · rw [if_pos hc]
      refine ⟨fun j hj => ?_, n + 1, by omega, rfl⟩
      by_cases hj2 : j = n + 1
      · subst hj2; exact Int.le_refl _
      · have := h1 j (by omega); omega
    · rw [if_neg hc]
      refine ⟨fun j hj => ?_, k, by omega, h3⟩
      by_cases hj2 : j = n + 1
      · subst hj2; omega
      · exact h1 j (by omega)
theorem WN.key {p : Nat → Int} {D : DataW Unit} {n : Nat} (h : WN p D n) {i : Nat} (hi : i < (ordL D).length) : ∃ j, j < n ∧ nameL D i = nmL j ∧ dueL D (nameL D i) = max (p j) 1 := by
  have hm : nameL D i ∈ ordL D := by
    unfold nameL
    rw [List.getD_eq_getElem?_getD, List.getElem?_eq_getElem hi]
    exact List.getElem_mem _
  rw [(ordL_perm D).mem_iff, h.sd.mem] at hm
  obtain ⟨j, hj, e⟩ := (h.has _).1 hm
  exact ⟨j, hj, e, by rw [e]; exact h.due j hj⟩
theorem first_le {D : DataW Unit} (h : SD D) {x : List UInt8} (hx : Maps.has D (.string x) = true) : 0 < (ordL D).length ∧ dueL D (nameL D 0) ≤ dueL D x := by
  have hm : x ∈ ordL D := (ordL_perm D).mem_iff.2 ((h.mem x).2 hx)
  have hO := h.ord.2
  unfold nameL
  cases hl : ordL D with
  | nil => rw [hl] at hm; cases hm
  | cons y l =>
    rw [hl] at hm hO
    refine ⟨Nat.succ_pos _, ?_⟩
    show dueL D y ≤ dueL D x
    rcases List.mem_cons.1 hm with rfl | hm
    · exact Int.le_refl _
    · rcases (List.pairwise_cons.1 hO).1 x hm with h | h
      · omega
      · omega
theorem WN.first {p : Nat → Int} {D : DataW Unit} {n : Nat} (h : WN p D n) (hn : 0 < n) : 0 < (ordL D).length ∧ dueL D (nameL D 0) = leastP p n := by
  obtain ⟨h1, k, hk, e⟩ := leastP_ok p n hn
  obtain ⟨g1, g2⟩ := first_le h.sd ((h.has _).2 ⟨k, hk, rfl⟩)
  rw [h.due k hk] at g2
  obtain ⟨j, hj, -, e2⟩ := h.key g1
  have := h1 j hj
  exact ⟨g1, by omega⟩
theorem leastP_bd {p : Nat → Int} (hp : ∀ i, 0 ≤ p i ∧ p i ≤ 65535) (n : Nat) (hn : 0 < n) : 1 ≤ leastP p n ∧ leastP p n ≤ 65535 := by
  obtain ⟨-, k, -, e⟩ := leastP_ok p n hn
  have := hp k
  omega
theorem WN.next {p : Nat → Int} {D : DataW Unit} {n : Nat} (h : WN p D n) (hn : 0 < n) : nextI D = leastP p n ∧ nextB D = true := by
  obtain ⟨g1, g2⟩ := h.first hn
  unfold nextI nextB
  rw [if_pos g1, decide_eq_true g1]
  exact ⟨g2, rfl⟩
theorem WN.before {p : Nat → Int} {D : DataW Unit} {n : Nat} (h : WN p D n) (hn : 0 < n) {t : Int} (ht : t < leastP p n) : dueN D t = 0 := by
  obtain ⟨g1, g2⟩ := h.first hn
  exact dueN_uniq (Nat.zero_le _) (fun j hj => by omega) fun _ => by rw [g2]; exact ht
theorem WN.then_ {p : Nat → Int} {D : DataW Unit} {n : Nat} (h : WN p D n) (hn : 0 < n) : 0 < dueN D (leastP p n) ∧ ∀ i, i < dueN D (leastP p n) → ∃ j, j < n ∧ nameL D i = nmL j ∧ max (p j) 1 = leastP p n := by
  obtain ⟨g1, g2⟩ := h.first hn
  obtain ⟨k1, k2, k3⟩ := dueN_spec D (leastP p n)
  refine ⟨?_, fun i hi => ?_⟩
  · rcases Nat.eq_zero_or_pos (dueN D (leastP p n)) with e | e
    · have := k3 (by omega)
      rw [e, g2] at this
      omega
    · exact e
  · obtain ⟨j, hj, e, e2⟩ := h.key (i := i) (by omega)
    have h1 := k2 i hi
    have h2 := (leastP_ok p n hn).1 j hj
    exact ⟨j, hj, e, by omega⟩
theorem dueN_emp (t : Int) : dueN (.map []) t = 0 := by
  have := (dueN_spec (.map []) t).1
  rw [← SD.olen .emp] at this
  have h : mSize (.map [] : DataW Unit) = 0 := rfl
  omega
end Go.Proofs.Ytpbjknkbllcciaa

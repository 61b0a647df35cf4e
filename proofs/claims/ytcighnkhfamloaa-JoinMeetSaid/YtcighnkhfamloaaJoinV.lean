/- Joining: what is asked, and kept: the law. No conditions. -/
import Derived.Test.YtcighnkhfamloaaJoinU
import Derived.Test.YtcighnkhfamloaaJoinS
namespace Go.Proofs.Ytcighnkhfamloaa
set_option linter.unusedVariables false
set_option linter.unusedSimpArgs false
open Go.RowKit Sym Sha Go.ChangeShapes Go.WideShapes Go.ChangeMaps

theorem ext_join (s : ByteArray) (a b c : Nat) (h1 : a ≤ b) (h2 : b ≤ c) : s.extract a b ++ s.extract b c = s.extract a c := by
  apply ByteArray.ext
  rw [ByteArray.data_append]
  simp [Array.extract_append_extract, Nat.min_eq_left h1, Nat.max_eq_right h2]
theorem ext_all (s : ByteArray) (n : Nat) (h : s.size = n) : s.extract 0 n = s := by
  subst h
  apply ByteArray.ext
  simp
theorem put_ext (t s : ByteArray) (a k : Nat) (hk : k ≤ 7) (h : a + k ≤ s.size) : Oct.put t (valU (s.extract a (a + k))) (k : Nat) = t ++ s.extract a (a + k) := put_val t (s.extract a (a + k)) k hk (by rw [ByteArray.size_extract]; omega)
theorem nil_appJ (s : ByteArray) : (ByteArray.mk (Array.mk []) : ByteArray) ++ s = s := by
  apply ByteArray.ext
  rw [ByteArray.data_append]
  simp
theorem extra_read (s : ByteArray) (h : readE s = 0) : extraB (readW s) (readK s) (readA s) (readB s) = s := by
  have hb := byte_in s
  have h' := h
  unfold readE at h'
  have hw : readW s = byteAt s 0 := by unfold readW; rw [if_pos h]
  by_cases h0 : s.size = 0
  · rw [if_pos h0] at h'; cases h'
  · rw [if_neg h0] at h'
    have hv := val_first s (by omega)
    have p0 : Oct.put ⟨⟨[]⟩⟩ (byteAt s 0) 1 = s.extract 0 1 := by
      have := put_ext ⟨⟨[]⟩⟩ s 0 1 (by omega) (by omega)
      rw [hv, nil_appJ] at this
      exact this
    by_cases h2 : byteAt s 0 > 2
    · rw [if_pos h2] at h'; cases h'
    · rw [if_neg h2] at h'
      by_cases hz : byteAt s 0 = 0
      · rw [if_pos hz] at h'
        by_cases h1 : s.size = 1
        · unfold extraB
          rw [hw, if_neg (by omega), if_neg (by omega), p0]
          exact ext_all s 1 h1
        · rw [if_neg h1] at h'; cases h'
      · rw [if_neg hz] at h'
        by_cases h9 : s.size = 9
        · unfold extraB
          by_cases e1 : byteAt s 0 = 1
          · have hk : readK s = s.extract 1 9 := by unfold readK; rw [if_pos ⟨h, e1⟩]
            rw [hw, if_pos e1, p0, hk, ext_join s 0 1 9 (by omega) (by omega)]
            exact ext_all s 9 h9
          · have e2 : byteAt s 0 = 2 := by omega
            have ha : readA s = valU (s.extract 1 5) := by unfold readA; rw [if_pos ⟨h, e2⟩]
            have hb2 : readB s = valU (s.extract 5 9) := by unfold readB; rw [if_pos ⟨h, e2⟩]
            rw [hw, if_neg e1, if_pos e2, p0, ha, hb2]
            have q1 := put_ext (s.extract 0 1) s 1 4 (by omega) (by omega)
            have q2 := put_ext (s.extract 0 5) s 5 4 (by omega) (by omega)
            rw [ext_join s 0 1 5 (by omega) (by omega)] at q1
            rw [ext_join s 0 5 9 (by omega) (by omega)] at q2
            have q1 : Oct.put (s.extract 0 1) (valU (s.extract 1 5)) 4 = s.extract 0 5 := q1
            have q2 : Oct.put (s.extract 0 5) (valU (s.extract 5 9)) 4 = s.extract 0 9 := q2
            rw [q1, q2]
            exact ext_all s 9 h9
        · rw [if_neg h9] at h'; cases h'
def tRead : List Value → Option (List Prop × Value) | [.string s] => some ([s.size ≤ 1000000], .tuple #[.agg #[.int .i64 (readW s), .string (readK s), .int .i64 0, .int .i64 (readA s), .int .i64 (readB s)], .int .i64 (readE s)]) | _ => none
def tExtra : List Value → Option (List Prop × Value) | [.agg ⟨[.int .i64 way, .string key, .int .i64 _, .int .i64 x, .int .i64 y]⟩] => some ([key.size ≤ 1000000], .string (extraB way key x y)) | _ => none
def SCodes : Tab := addS 13 tTrue29 <| addS 15 tRead <| addS 16 tRead <| addS 17 tExtra <| addS 19 tExtra <| addS 18 tOurs noS
theorem SCodes_ok : TabOk Try.prog SCodes := by
  refine addS_ok (addS_ok (addS_ok (addS_ok (addS_ok (addS_ok noS_ok (by kernel_rfl) ?_) (by kernel_rfl) ?_) (by kernel_rfl) ?_) (by kernel_rfl) ?_) (by kernel_rfl) ?_) (by kernel_rfl) ?_
  · (intro xs p v h hp w; unfold tOurs at h; (split at h) <;> first | (cases h; done) | (simp only [Option.some.injEq, Prod.mk.injEq] at h; obtain ⟨rfl, rfl⟩ := h; exact law29_ours _ _ _ _ _ w))
  · (intro xs p v h hp w; unfold tExtra at h; (split at h) <;> first | (cases h; done) | (simp only [Option.some.injEq, Prod.mk.injEq] at h; obtain ⟨rfl, rfl⟩ := h; exact ref29_extra _ _ _ _ _ (hp _ (List.mem_cons_self ..)) w))
  · (intro xs p v h hp w; unfold tExtra at h; (split at h) <;> first | (cases h; done) | (simp only [Option.some.injEq, Prod.mk.injEq] at h; obtain ⟨rfl, rfl⟩ := h; exact join_extra _ _ _ _ _ (hp _ (List.mem_cons_self ..)) w))
  · (intro xs p v h hp w; unfold tRead at h; (split at h) <;> first | (cases h; done) | (simp only [Option.some.injEq, Prod.mk.injEq] at h; obtain ⟨rfl, rfl⟩ := h; exact ref29_read _ (hp _ (List.mem_cons_self ..)) w))
  · (intro xs p v h hp w; unfold tRead at h; (split at h) <;> first | (cases h; done) | (simp only [Option.some.injEq, Prod.mk.injEq] at h; obtain ⟨rfl, rfl⟩ := h; exact join_read _ (hp _ (List.mem_cons_self ..)) w))
  · (intro xs p v h hp w; unfold tTrue29 at h; (split at h) <;> first | (cases h; done) | (simp only [Option.some.injEq, Prod.mk.injEq] at h; obtain ⟨rfl, rfl⟩ := h; exact works29 w))
def MuP (n : Nat) (f : Nat → Nat → Value) : Prop := n ≤ maxLen ∧ AllMu n f
def FCodes (P : Program) (fAsk fAskR fSame : Func) : LTab := addR 23 (rdA MuP fun n f => .agg #[.int .i64 (askW n (muF f)), .string ⟨⟨[]⟩⟩, .int .i64 (askT n (muF f)), .int .i64 (askA n (muF f)), .int .i64 0]) <| addR 24 (rdA MuP fun n f => .agg #[.int .i64 (askW n (muF f)), .string ⟨⟨[]⟩⟩, .int .i64 (askT n (muF f)), .int .i64 (askA n (muF f)), .int .i64 0]) <|
  addT 21 (inl P (onlyS P noS) noL fAsk) <| addT 22 (inl P (onlyS P noS) noL fAskR) <| addT 20 (inlU P (onlyS P noS) fSame 3) <| addF 14 fGreat noF
theorem mu_row {w : World} {v : Value} {n : Nat} {f : Nat → Nat → Value} (h : ∀ B, BlkSat B w v (.row n 7 f)) (ho : AllMu n f) : ∀ B, BlkSat B w v (.row n 7 fun i j => (muF f i).c j) := fun B => row_congr (h B) fun i j hi hj => ho i hi j hj
theorem FCodes_ok : LOk Try.prog (FCodes Try.prog Try.f21 Try.f22 Try.f20) :=
  addR_ok (addR_ok (addT_ok (addT_ok (addT_ok (addF_ok noF_ok (by kernel_rfl) fGreat_ok)
    (by kernel_rfl) (inlU_ok (onlyS_ok noS_ok) 3 Try.func20 (by kernel_rfl) (by kernel_rfl) (by kernel_rfl) (by kernel_rfl) (by kernel_rfl)))
    (by kernel_rfl) (inl_ok (onlyS_ok noS_ok) follows Try.func22 (by kernel_rfl) (by kernel_rfl) (noloops (by kernel_rfl))))
    (by kernel_rfl) (inl_ok (onlyS_ok noS_ok) follows Try.func21 (by kernel_rfl) (by kernel_rfl) (noloops (by kernel_rfl))))
    (by kernel_rfl) (rdA_ok fun n f v w hv hp => ref29_asked n (muF f) hp.1 v w (mu_row hv hp.2)))
    (by kernel_rfl) (rdA_ok fun n f v w hv hp => join_asked n (muF f) hp.1 v w (mu_row hv hp.2))
abbrev CCodes (P : Program) (fAsk fAskR fSame : Func) : Cfg := both P SCodes (FCodes P fAsk fAskR fSame) [23, 24, 21, 22, 20, 14]
end Go.Proofs.Ytcighnkhfamloaa

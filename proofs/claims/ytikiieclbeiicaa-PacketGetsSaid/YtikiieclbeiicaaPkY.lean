/- The packet that bytes are: the reference's: contract. No conditions. -/
import Derived.Test.YtikiieclbeiicaaPkX
namespace Go.Proofs.Ytikiieclbeiicaa
set_option linter.unusedVariables false
set_option linter.unusedSimpArgs false
open Go.RowKit Sym Go.ChangeShapes Go.WideShapes Go.ChangeMaps Inet

theorem ext_ext (s : ByteArray) (i j k l : Nat) : (s.extract i j).extract k l = s.extract (i + k) (min (i + l) j) := by
  rw [ByteArray.extract_extract]
theorem rget_cut {s : ByteArray} (hs : s.size ≤ 4000) (he : (get s).2.2 = 0) (hw : 4 * (hG s).words ≤ s.size) (hl : (begunN (hG s).long).toNat ≤ restW s) :
    (get s).2.1.extract 0 (IntKind.i64.wrap (IntKind.i64.wrap (4 * (get s).1.words) - IntKind.i64.wrap ((s.size : Int) - ((get s).2.1.size : Int)))).toNat = bodyS s ∧ IntKind.i64.wrap (IntKind.i64.wrap (4 * (get s).1.words) - IntKind.i64.wrap ((s.size : Int) - ((get s).2.1.size : Int))) = (bodyS s).size ∧ (bodyS s).size ≤ (get s).2.1.size := by
  obtain ⟨l, eg, hc, h3, h4⟩ := getB_ok he
  obtain ⟨w0, w1⟩ := get_words he
  have hz : (get s).2.1 = s.extract (lenB l) s.size := by rw [eg]
  have hlong : (hG s).long = l := by unfold hG; rw [eg]; exact h4
  have hbeg : (begunN (hG s).long).toNat = lenB l := by rw [hlong]; cases l <;> rfl
  have hR : restW s = (4 * (get s).1.words).toNat := rfl
  have hw' : 4 * (get s).1.words ≤ s.size := hw
  have hwr : IntKind.i64.wrap (4 * (get s).1.words) = 4 * (get s).1.words := w64 _ (by omega) (by omega)
  have hzs : (get s).2.1.size = s.size - lenB l := by rw [hz, ByteArray.size_extract]; omega
  have hws : IntKind.i64.wrap ((s.size : Int) - ((get s).2.1.size : Int)) = lenB l := by rw [hzs, w64 _ (by omega) (by omega)]; omega
  have hwt : IntKind.i64.wrap (4 * (get s).1.words - (lenB l : Int)) = 4 * (get s).1.words - (lenB l : Int) := w64 _ (by omega) (by omega)
  have hpe : partsE s = 0 := by
    unfold partsE
    rw [if_pos he, if_neg (by omega)]
  have hah : aheadS s = s.extract 0 (restW s) := if_pos hpe
  have hasz : (aheadS s).size = restW s := (partsE_ok hpe).2.2
  rw [hbeg] at hl
  have hb : bodyS s = s.extract (lenB l) (restW s) := by
    unfold bodyS
    rw [hbeg, hasz, hah, ext_ext, Nat.zero_add, Nat.zero_add, Nat.min_self]
  have hbs : (bodyS s).size = restW s - lenB l := by rw [hb, ByteArray.size_extract]; omega
  rw [hwr, hws, hwt]
  refine ⟨?_, by omega, by omega⟩
  rw [hb, hz, ext_ext]
  congr 1
  omega
theorem oneT_ok {k : Nat} {t : T (SV × List Blk)} {Q : SV × Option Blk → Prop} (h : (oneT k t).ok Q) : t.ok fun r => Q (r.1, r.2[k]?) := T.ok_bind h
def gQ (s : ByteArray) (x y : Int) (r : SV × Option Blk) : Prop := (errG s x y = 0 ∧ r.1 = .tup [(pkG s).s (.ref 6), .c (.int .i64 0)] ∧ r.2 = some (.vec true 78 2 (optsOf (optS s)).length (opCells (optsOf (optS s))))) ∨ (¬ errG s x y = 0 ∧ r.1 = .v (.tuple #[nonePk.v (.slice none 0 0), .int .i64 (errG s x y)]))
set_option maxRecDepth 100000 in
set_option maxHeartbeats 4000000 in
theorem fRGet_run (s : ByteArray) (x y : Int) (hs : s.size ≤ 4000) : (oneT 6 (runF Try.prog (CGv Try.prog Try.f55 s x y (get s).1 (get s).2.1 (get s).2.2 (rightB s x y)) noL Try.f16 (Try.f16.body.getD .skip) [.v (.string s), .v (.agg #[.int .i64 x, .int .i64 y])] [])).ok (gQ s x y) := by
  rw [rget10_run]
  have no : ∀ (o : Option Blk) (z : Int), errG s x y = z → ¬ z = 0 → gQ s x y (.v (.tuple #[nonePk.v (.slice none 0 0), .int .i64 z]), o) := fun o z h1 h2 => .inr ⟨by rw [h1]; exact h2, by rw [h1]⟩
  have nd : ∀ {b : Prop} {i : Decidable b}, (!decide b) = true → ¬ b := fun {b i} h e => by rw [decide_eq_true e] at h; cases h
  have nf : ∀ {b : Prop} {i : Decidable b}, (!decide b) = false → b := fun {b i} h => by
    by_cases e : b
    · exact e
    · rw [decide_eq_false e] at h; cases h
  refine t_ite (fun h => t_leaf (no _ 11 (if_pos (of_decide_eq_true h)) (by decide))) fun h7 => t_need ⟨rfl, by omega⟩ (t_ite (fun h => ?_) fun he => t_ite (fun h => ?_) fun hw => t_need ⟨⟨rfl, rfl, rfl⟩, hs⟩ (t_ite (fun h => ?_) fun hr => ?_))
  · have h := nd h
    have hp : partsE s = (get s).2.2 := if_neg h
    refine t_leaf (no _ (get s).2.2 ?_ h)
    unfold errG; rw [if_neg (of_decide_eq_false h7), if_neg (by rw [hp]; exact h), hp]
  · have he : (get s).2.2 = 0 := nf he
    obtain ⟨w0, w1⟩ := get_words he
    have h := of_decide_eq_true h
    rw [w64 _ (by omega) (by omega)] at h
    have hp : partsE s = 1 := by unfold partsE; rw [if_pos he, if_pos (by omega)]
    refine t_leaf (no _ 1 ?_ (by decide))
    unfold errG; rw [if_neg (of_decide_eq_false h7), if_neg (by rw [hp]; decide), hp]
  · have he : (get s).2.2 = 0 := nf he
    obtain ⟨w0, w1⟩ := get_words he
    have hw := of_decide_eq_false hw
    rw [w64 _ (by omega) (by omega)] at hw
    have hp : partsE s = 0 := by unfold partsE; rw [if_pos he, if_neg (by omega)]
    refine t_leaf (no _ 5 ?_ (by decide))
    unfold errG; rw [if_neg (of_decide_eq_false h7), if_pos hp, if_neg (by simpa using h)]
  · have he : (get s).2.2 = 0 := nf he
    obtain ⟨w0, w1⟩ := get_words he
    have hw := of_decide_eq_false hw
    have hwr : IntKind.i64.wrap (4 * (get s).1.words) = 4 * (get s).1.words := w64 _ (by omega) (by omega)
    rw [hwr] at hw
    have hp : partsE s = 0 := by unfold partsE; rw [if_pos he, if_neg (by omega)]
    have hr : rightB s x y = true := by simpa using hr
    have h7 := of_decide_eq_false h7
    have fit := fld_fits hp
    have hpo := partsE_ok hp
    have hasz := hpo.2.2
    have hbd : (bodyS s).size = (aheadS s).size - (begunN (hG s).long).toNat := by unfold bodyS; rw [ByteArray.size_extract]; omega
    have hb0 : 0 ≤ begunN (hG s).long := by unfold begunN; split <;> decide
    have hrs : restW s ≤ s.size := by
      have := hpo.2.1
      show (4 * (hG s).words).toNat ≤ _
      omega
    obtain ⟨c1, c2, c3⟩ := rget_cut hs he hpo.2.1 (by omega)
    have hD : s.extract (IntKind.i64.wrap (4 * (get s).1.words)).toNat ((s.size : Int)).toNat = dataS s := by
      unfold dataS
      rw [if_pos hp, hwr]; rfl
    have hE : errG s x y = if noughtR (pk0 s) (bodyS s) = 0 then (if getE (optS s) = 0 then (if ((pkG s).data.size : Int) > 200 then 11 else if spareP (pkG s) = true then 4 else 0) else getE (optS s)) else 4 := by
      unfold errG; rw [if_neg h7, if_pos hp, if_pos hr]
    obtain ⟨l, eg, hc, h3, h4⟩ := getB_ok he
    have hkk : 0 ≤ (hG s).kind ∧ (hG s).kind ≤ 9 := by
      have := (Head.check_ok hc).1
      unfold hG; rw [eg]; exact this
    have hfit : nFld (pk0 s) ≤ (bodyS s).size := by omega
    have hbz : (bodyS s).size ≤ 700 := by omega
    have hO : optS s = (bodyS s).extract (nFld (pk0 s)) (bodyS s).size := rfl
    have hP : pkG s = fldR (pk0 s) (bodyS s) := rfl
    have hsz : ∀ k, ((bodyS s).extract k (bodyS s).size).size ≤ 1000 := fun k => by rw [ByteArray.size_extract]; omega
    have e2 : decide ((get s).1.kind < 2) = served (get s).1.kind := by
      have hkk : 0 ≤ (get s).1.kind ∧ (get s).1.kind ≤ 9 := hkk
      unfold served
      by_cases h : (get s).1.kind < 2
      · simp [h]; omega
      · simp [h]; omega
    have hkind : 0 ≤ (get s).1.kind := hkk.1
    have n1 : 0 ≤ 4 * (get s).1.words ∧ 4 * (get s).1.words ≤ s.size := ⟨by omega, by omega⟩
    refine t_need ⟨by rw [hwr]; exact n1.1, by rw [hwr]; exact n1.2, Int.le_refl _⟩ (t_need ⟨Int.le_refl _, by rw [c2]; omega, by rw [c2]; omega⟩ ?_)
    have q4 : ∀ o, ¬ noughtR (pk0 s) (bodyS s) = 0 → gQ s x y (.v (.tuple #[nonePk.v (.slice none 0 0), .int .i64 4]), o) := fun o h => no o 4 (by rw [hE, if_neg h]) (by decide)
    have qg : ∀ o, noughtR (pk0 s) (bodyS s) = 0 → ¬ getE ((bodyS s).extract (nFld (pk0 s)) (bodyS s).size) = 0 → gQ s x y (.v (.tuple #[nonePk.v (.slice none 0 0), .int .i64 (getE ((bodyS s).extract (nFld (pk0 s)) (bodyS s).size))]), o) := fun o h h2 => no o _ (by rw [hE, if_pos h, hO, if_neg h2]) h2
    have q11 : ∀ o, noughtR (pk0 s) (bodyS s) = 0 → getE ((bodyS s).extract (nFld (pk0 s)) (bodyS s).size) = 0 → ((dataS s).size : Int) > 200 → gQ s x y (.v (.tuple #[nonePk.v (.slice none 0 0), .int .i64 11]), o) := fun o h h2 h3 => no o _ (by rw [hE, if_pos h, hO, if_pos h2, if_pos (by rw [hP]; exact h3)]) (by decide)
    have qs : ∀ o, noughtR (pk0 s) (bodyS s) = 0 → getE ((bodyS s).extract (nFld (pk0 s)) (bodyS s).size) = 0 → ¬ ((dataS s).size : Int) > 200 → spareP (fldR (pk0 s) (bodyS s)) = true → gQ s x y (.v (.tuple #[nonePk.v (.slice none 0 0), .int .i64 4]), o) := fun o h h2 h3 h4 => no o _ (by rw [hE, if_pos h, hO, if_pos h2, if_neg (by rw [hP]; exact h3), hP, if_pos h4]) (by decide)
    have qk : noughtR (pk0 s) (bodyS s) = 0 → getE ((bodyS s).extract (nFld (pk0 s)) (bodyS s).size) = 0 → ¬ ((dataS s).size : Int) > 200 → spareP (fldR (pk0 s) (bodyS s)) = false → gQ s x y (.tup [(fldR (pk0 s) (bodyS s)).s (.ref 6), .c (.int .i64 0)], some (.vec true 78 2 (optsOf ((bodyS s).extract (nFld (pk0 s)) (bodyS s).size)).length (opCells (optsOf ((bodyS s).extract (nFld (pk0 s)) (bodyS s).size))))) := fun h h2 h3 h4 => .inl ⟨by rw [hE, if_pos h, hO, if_pos h2, if_neg (by rw [hP]; exact h3), hP, if_neg (by rw [h4]; decide)], by rw [hP], by rw [hO]⟩
    simp only [c1, hD, e2]
    have hk0 : pk0 s = ⟨(get s).1.kind, (get s).1.long, (get s).1.src, (get s).1.dst, (get s).1.ccval, (get s).1.cover, (get s).1.seq, 0, 0, 0, 0, dataS s⟩ := rfl
    rw [hk0] at q4 qg q11 qs qk hfit
    clear no hE hO hP hk0 c1 c2 c3 hD e2 hsz fit hpo hasz hbd hb0 hrs h7 hr hp hwr hw w0 w1 he h3 h4 eg hc hkk n1
    generalize gQ s x y = Q at *
    generalize bodyS s = B at *
    generalize dataS s = D at *
    generalize (get s).1 = H at *
    obtain ⟨src, dst, words, ccval, cover, sum, kind, long, seq⟩ := H
    have hsz : ∀ k, (B.extract k B.size).size ≤ 1000 := fun k => by rw [ByteArray.size_extract]; omega
    unfold fldR noughtR nFld nAck nSrv nRst at *
    dsimp only at *
    generalize Head.acks kind = a at *
    generalize served kind = v at *
    generalize getE = gE at *
    generalize spareP = sP at *
    generalize valU = vU at *
    generalize optsOf = oO at *
    by_cases k7 : kind = 7
    · simp only [if_pos k7] at q4 qg q11 qs qk hfit
      rw [decide_eq_true k7]
      cases a <;> cases v <;> cases long <;> (simp only [if_true, if_false, Bool.false_eq_true, Nat.add_zero, Nat.zero_add, Nat.reduceAdd, true_implies] at q4 qg q11 qs qk hfit) <;>
        (repeat' (first | (with_reducible refine t_need ?_ ?_) | (with_reducible refine t_ite ?_ ?_; all_goals intro h; all_goals (try simp only [Bool.not_eq_true', Bool.not_eq_false', decide_eq_true_eq, decide_eq_false_iff_not] at h); all_goals (first | (simp only [Bool.false_eq_true, Bool.true_eq_false] at h; done) | skip)) | (with_reducible refine t_leaf ?_))) <;>
        first | exact hkind | exact hsz _ | (with_reducible exact ⟨trivial, by omega⟩) | exact q4 _ ‹_› | exact qg _ ‹_› ‹_› | exact q11 _ ‹_› ‹_› ‹_› | exact qs _ ‹_› ‹_› ‹_› ‹_› | exact qk ‹_› ‹_› ‹_› ‹_› | exact qg _ ‹_› | exact q11 _ ‹_› ‹_› | exact qs _ ‹_› ‹_› ‹_› | exact qk ‹_› ‹_› ‹_› | omega | skip
    · simp only [if_neg k7] at q4 qg q11 qs qk hfit
      rw [decide_eq_false k7]
      cases a <;> cases v <;> cases long <;> (simp only [if_true, if_false, Bool.false_eq_true, Nat.add_zero, Nat.zero_add, Nat.reduceAdd, true_implies] at q4 qg q11 qs qk hfit) <;>
        (repeat' (first | (with_reducible refine t_need ?_ ?_) | (with_reducible refine t_ite ?_ ?_; all_goals intro h; all_goals (try simp only [Bool.not_eq_true', Bool.not_eq_false', decide_eq_true_eq, decide_eq_false_iff_not] at h); all_goals (first | (simp only [Bool.false_eq_true, Bool.true_eq_false] at h; done) | skip)) | (with_reducible refine t_leaf ?_))) <;>
        first | exact hkind | exact hsz _ | (with_reducible exact ⟨trivial, by omega⟩) | exact q4 _ ‹_› | exact qg _ ‹_› ‹_› | exact q11 _ ‹_› ‹_› ‹_› | exact qs _ ‹_› ‹_› ‹_› ‹_› | exact qk ‹_› ‹_› ‹_› ‹_› | exact qg _ ‹_› | exact q11 _ ‹_› ‹_› | exact qs _ ‹_› ‹_› ‹_› | exact qk ‹_› ‹_› ‹_› | omega | skip
set_option maxRecDepth 100000 in
theorem fRGet_ok : EntryOk Try.prog 16 fPGet := by
  intro ss H t ht bs B w vs hm hv Qs hq
  unfold fPGet at ht
  split at ht
  · rename_i s x y
    simp only [Option.some.injEq] at ht
    subst ht
    obtain ⟨hs, hq1, hq2⟩ := hq
    have run := oneT_ok (fRGet_run s x y hs)
    refine (inl_ok (L := noL) (CGv_ok s x y) follows Try.func16 (by kernel_rfl) (lexAllF_ok (by kernel_rfl)) (noloops (by kernel_rfl)) [.v (.string s), .v (.agg ⟨[.int .i64 x, .int .i64 y]⟩)] [] _ rfl bs B w vs hm hv _ run).mono ?_
    rintro e w' ⟨s1, H1, B1, v, hr, hpr, he', hx, hm'⟩
    obtain rfl : B = [] := List.length_eq_zero_iff.1 hm.sat.len
    rcases hr with ⟨h0, hr, hr2⟩ | ⟨h0, hr⟩
    · dsimp only at hr hr2
      subst hr
      obtain ⟨hl, -⟩ := List.getElem?_eq_some_iff.1 hr2
      have hB : 6 < B1.length := by rw [hm'.sat.len]; exact hl
      obtain ⟨u, hu⟩ : ∃ u, B1[6]? = some u := ⟨_, List.getElem?_eq_getElem hB⟩
      refine ⟨_, _, [u], v, hq1 (decide_eq_true h0), List.nil_prefix, he', ?_, mem_pick hm' hr2 hu⟩
      rw [← hx]
      simp [SV.to, SV.tos, hu]
    · dsimp only at hr
      subst hr
      have hm2 := only_mem hm' List.nil_prefix
      exact ⟨_, _, [], v, hq2 (decide_eq_false h0), List.prefix_refl _, he', hx, hm2⟩
  · cases ht
end Go.Proofs.Ytikiieclbeiicaa

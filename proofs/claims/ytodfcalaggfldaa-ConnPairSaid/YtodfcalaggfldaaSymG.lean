/- The symbolic evaluator: loops whose memory is put in order by itself, also where cells hold what is handed on. No conditions. -/
import Derived.Test.YtodfcalaggfldaaSymD
namespace Go.Proofs.Ytodfcalaggfldaa.Sym
set_option linter.unusedVariables false
set_option linter.unusedSimpArgs false
open Go.RowKit

def ordB (n0 : Nat) (js : List Nat) (i k : Nat) (o : Option Blk) : Blk := match o with
  | some b => bif isAt i (ordN n0 js k) then locB (ordN n0 js) (openVec b) else .gone
  | none => .gone
def ordH (n0 : Nat) (js : List Nat) (H : List Blk) : List Blk :=
  (List.range n0).map (fun k => ordB n0 js k k H[k]?) ++ js.zipIdx.map fun p => ordB n0 js (n0 + p.2) p.1 H[p.1]?
def ordS (ρ : Nat → Option Nat) : Option SV → Option SV
  | some s => openO (s.mapL ρ)
  | none => none
/-- the first n0 letters, but those of js, and behind them those of js -/
def St.ord1 (n0 : Nat) (keep : List Nat) (js : List Nat) (st : St) : St :=
  ⟨keep.map fun t => (t, ordS (ordN n0 js) (look st.fr t)), (ordH n0 js st.H).map openBlk⟩
theorem ord1_ok {N n0 : Nat} {w0 : World} {bs : List Nat} {st : St} {B : List Value} {a : Act} {w : World} (hsl : Slots N st.fr B a) (hm : Mem w0 bs st.H B w) (hn : n0 ≤ B.length) (keep js : List Nat) (hjs : ∀ j ∈ js, j < st.H.length) :
    ∃ B', B.take n0 <+: B' ∧ Slots N (st.ord1 n0 keep js).fr B' a ∧ Mem w0 bs (st.ord1 n0 keep js).H B' w := by
  have hlt : (B.take n0).length = n0 := by simp; omega
  refine ⟨B.take n0 ++ js.map (fun j => B.getD j undef), List.prefix_append _ _, ?_, openBlk_mem ?_⟩
  all_goals
    have hρ : ∀ (k i : Nat), ordN n0 js k = some i → (B.take n0 ++ js.map (fun j => B.getD j undef))[i]? = B[k]? := by
      intro k i e
      unfold ordN at e
      split at e
      · rename_i i' hi
        simp only [Option.some.injEq] at e
        subst e
        obtain ⟨-, h2⟩ := posOf_get hi
        rw [Nat.sub_zero] at h2
        have hk := hjs k (List.mem_of_getElem? h2)
        rw [← hm.sat.len] at hk
        rw [List.getElem?_append_right (by omega), hlt, Nat.add_sub_cancel_left, List.getElem?_map, h2]
        simp [List.getD_eq_getElem?_getD, List.getElem?_eq_getElem hk]
      · cases hb : Nat.blt k n0
        · rw [hb] at e; cases e
        · rw [hb, cond_true, Option.some.injEq] at e
          subst e
          rw [Nat.blt_eq] at hb
          rw [List.getElem?_append_left (by omega), List.getElem?_take, if_pos hb]
  · refine ⟨hsl.size, hsl.defers, fun t s e => ?_⟩
    have e := look_only e
    unfold ordS at e
    split at e
    · rename_i s0 hs0
      cases hc : SV.mapL (ordN n0 js) s0 with
      | none => rw [hc] at e; cases e
      | some s1 =>
        rw [hc] at e
        simp only [openO, Option.some.injEq] at e
        subst e
        rw [openS_to, SV.mapL_to hρ hc]
        exact hsl.slot t s0 hs0
    · cases e
  · have hlen : (ordH n0 js st.H).length = (B.take n0 ++ js.map (fun j => B.getD j undef)).length := by
      unfold ordH
      rw [List.length_append, List.length_append, hlt]
      simp
    have get : ∀ {i : Nat} {x : Blk}, (ordH n0 js st.H)[i]? = some x → x = .gone ∨ ∃ k y, ordN n0 js k = some i ∧ st.H[k]? = some y ∧ x = locB (ordN n0 js) (openVec y) := by
      intro i x hi
      unfold ordH at hi
      have one : ∀ {k : Nat}, x = ordB n0 js i k st.H[k]? → x = .gone ∨ ∃ k y, ordN n0 js k = some i ∧ st.H[k]? = some y ∧ x = locB (ordN n0 js) (openVec y) := by
        intro k e
        unfold ordB at e
        split at e
        · rename_i b hb
          cases hc : isAt i (ordN n0 js k)
          · rw [hc] at e; exact .inl e
          · rw [hc, cond_true] at e
            exact .inr ⟨k, b, isAt_iff.1 hc, hb, e⟩
        · exact .inl e
      by_cases hlo : i < n0
      · rw [List.getElem?_append_left (by simpa using hlo), List.getElem?_map, Option.map_eq_some_iff] at hi
        obtain ⟨k, hk, rfl⟩ := hi
        rw [List.getElem?_range hlo, Option.some.injEq] at hk
        subst hk
        exact one rfl
      · rw [List.getElem?_append_right (by simpa using hlo), List.getElem?_map, Option.map_eq_some_iff] at hi
        obtain ⟨p, hp, rfl⟩ := hi
        simp only [List.length_map, List.length_range] at hp
        rw [List.getElem?_zipIdx, Option.map_eq_some_iff] at hp
        obtain ⟨j, hj, rfl⟩ := hp
        refine one (k := j) ?_
        simp only [Nat.zero_add]
        rw [show n0 + (i - n0) = i by omega]
    have ex : ∀ i b, ExBlk (ordH n0 js st.H) (B.take n0 ++ js.map (fun j => B.getD j undef)) i b → ∃ k, ordN n0 js k = some i ∧ ExBlk st.H B k b := by
      rintro i b ⟨x, u, h1, h2, h3, h4⟩
      rcases get h1 with rfl | ⟨k, y, g1, g2, rfl⟩
      · cases h2
      · exact ⟨k, g1, y, u, g2, by rw [← openVec_excl]; exact locB_excl h2, by rw [← hρ k i g1]; exact h3, h4⟩
    have rd : ∀ i b, RdBlk (ordH n0 js st.H) (B.take n0 ++ js.map (fun j => B.getD j undef)) i b → ∃ k, ordN n0 js k = some i ∧ RdBlk st.H B k b := by
      rintro i b ⟨n, sz, f, u, h1, h2, h3, h4, h5⟩
      rcases get h1 with e | ⟨k, y, g1, g2, e⟩
      · cases e
      · exact ⟨k, g1, n, sz, f, u, by rw [g2, openVec_row (locB_row e.symm)], h2, h3, by rw [← hρ k i g1]; exact h4, h5⟩
    refine ⟨⟨hlen.symm, fun i x u hi hu => ?_, fun i j b h1 h2 => ?_, fun i j b h1 h2 => ?_⟩, hm.keeps, fun i b h1 => ?_⟩
    · rcases get hi with rfl | ⟨k, y, g1, g2, rfl⟩
      · trivial
      · rw [hρ k i g1] at hu
        exact locB_sat hρ (openVec_sat (hm.sat.blk k y u g2 hu))
    · obtain ⟨k, k1, k2⟩ := ex _ _ h1
      obtain ⟨l, l1, l2⟩ := ex _ _ h2
      have := hm.sat.sep _ _ _ k2 l2
      subst this
      rw [k1, Option.some.injEq] at l1
      exact l1
    · obtain ⟨k, k1, k2⟩ := ex _ _ h1
      obtain ⟨l, l1, l2⟩ := rd _ _ h2
      exact hm.sat.far _ _ _ k2 l2
    · obtain ⟨k, k1, k2⟩ := ex _ _ h1
      exact hm.good _ _ k2
/-! nil slices become letters -/
abbrev Mw := List (Spot × TypeId × Nat)
def spotAt (st : St) : Spot → Option SV
  | .slot t _ => look st.fr t
  | .cell k i _ => match st.H[k]? with
    | some (.own cells) => cells[i]?
    | _ => none
def openNil (st : St) (m : Spot × TypeId × Nat) : St := match m.1 with
  | .slot t _ => bif isNilS (look st.fr t) then ⟨(t, some (.ref st.H.length)) :: st.fr, st.H ++ [Blk.vec true m.2.1 m.2.2 0 []]⟩ else st
  | .cell k i _ => match st.H[k]? with
    | some (.own cells) => bif isNilS cells[i]? then ⟨st.fr, (st.H ++ [Blk.vec true m.2.1 m.2.2 0 []]).set k (.own (cells.set i (.ref st.H.length)))⟩ else st
    | _ => st
theorem nil_to {o : Option SV} (e : isNilS o = true) : ∃ s, o = some s ∧ ∀ B, s.to B = some (.slice none 0 0) := by
  unfold isNilS at e
  split at e
  · exact ⟨_, rfl, fun _ => rfl⟩
  · exact ⟨_, rfl, fun _ => rfl⟩
  · cases e
theorem openNil_ok {N : Nat} {w0 : World} {bs : List Nat} {st : St} {B : List Value} {a : Act} {w : World} (hsl : Slots N st.fr B a) (hm : Mem w0 bs st.H B w) (m : Spot × TypeId × Nat) :
    ∃ B', B <+: B' ∧ Slots N (openNil st m).fr B' a ∧ Mem w0 bs (openNil st m).H B' w := by
  have stay : ∃ B', B <+: B' ∧ Slots N st.fr B' a ∧ Mem w0 bs st.H B' w := ⟨B, List.prefix_refl _, hsl, hm⟩
  have hsat : BlkSat (B ++ [Value.slice none 0 0]) w (.slice none 0 0) (.vec true m.2.1 m.2.2 0 []) := by simp [BlkSat, VecSat, World.ownsRow]
  have hadd := hm.add (grown_self w none) (y := .vec true m.2.1 m.2.2 0 []) (u := .slice none 0 0) (fun b hb => by cases hb) hsat
  have hpre : B <+: B ++ [Value.slice none 0 0] := List.prefix_append _ _
  have hlast : (SV.ref st.H.length).to (B ++ [Value.slice none 0 0]) = some (.slice none 0 0) := ref_to hm.sat.len _
  unfold openNil
  split
  · rename_i t _ _
    cases hb : isNilS (look st.fr t)
    · rw [cond_false]; exact stay
    · rw [cond_true]
      refine ⟨_, hpre, ⟨hsl.size, hsl.defers, fun u s e => ?_⟩, hadd⟩
      simp only [look] at e
      cases hb' : Nat.beq t u
      · rw [hb', cond_false] at e; exact SV.to_mono hpre (hsl.slot u s e)
      · rw [hb', cond_true, Option.some.injEq] at e
        have := Nat.eq_of_beq_eq_true hb'
        subst this
        subst e
        rw [nil_val hsl hb]
        exact hlast
  · rename_i k i _ _
    split
    · rename_i cells hk
      cases hb : isNilS cells[i]?
      · rw [cond_false]; exact stay
      · rw [cond_true]
        obtain ⟨s, hs, hnil⟩ := nil_to hb
        have hk' : (st.H ++ [Blk.vec true m.2.1 m.2.2 0 []])[k]? = some (.own cells) := by
          rw [List.getElem?_append_left (List.getElem?_eq_some_iff.1 hk).1]; exact hk
        obtain ⟨u, hu⟩ := hadd.sat.getB hk'
        obtain ⟨b, vs, rfl, h2, h3⟩ := hadd.sat.blk k _ u hk' hu
        refine ⟨_, hpre, hsl.mono hpre, hadd.upd hk' rfl hu (grown_self w _) rfl ⟨b, vs, rfl, ?_, h3⟩⟩
        rw [tos_setN cells i s hs (by rw [hlast, hnil])]
        exact h2
    · exact stay
theorem openNils_ok {N : Nat} {w0 : World} {bs : List Nat} {a : Act} {w : World} : ∀ (mv : Mw) {st : St} {B : List Value}, Slots N st.fr B a → Mem w0 bs st.H B w → ∃ B', B <+: B' ∧ Slots N (mv.foldl openNil st).fr B' a ∧ Mem w0 bs (mv.foldl openNil st).H B' w
  | [], st, B, h, hm => ⟨B, List.prefix_refl _, h, hm⟩
  | m :: mv, st, B, h, hm => by
    obtain ⟨B1, p1, h1, m1⟩ := openNil_ok h hm m
    obtain ⟨B2, p2, h2, m2⟩ := openNils_ok mv h1 m1
    exact ⟨B2, p1.trans p2, h2, m2⟩
def refO : Option SV → List Nat
  | some (.ref k) => [k]
  | some (.ptr k _) => [k]
  | _ => []
/-- the letters that are handed on, in their order -/
def ordJs (n0 : Nat) (keep : List Nat) (mv : Mw) (st : St) : List Nat :=
  let sp := mv.flatMap fun m => refO (spotAt st m.1)
  (reach (fun k => st.H[k]?) 300 (sp ++ keep.flatMap (fun t => letsO (look st.fr t)) ++ List.range n0) []).filter fun k => (Nat.ble n0 k || sp.any (Nat.beq k)) && Nat.blt k st.H.length
def St.ord (n0 : Nat) (keep : List Nat) (mv : Mw) (ks : List Nat) (st : St) : St :=
  let s := (mv.foldl openNil st).ord1 n0 keep (ordJs n0 keep mv (mv.foldl openNil st))
  ⟨s.fr, ks.foldl softAt s.H⟩
/-- a way to put a state in order: the first n0 letters stay -/
def TidyOk (N n0 : Nat) (τ : St → St) : Prop := ∀ (w0 : World) (bs : List Nat) (st : St) (B : List Value) (a : Act) (w : World), Slots N st.fr B a → Mem w0 bs st.H B w → n0 ≤ B.length → ∃ B', B.take n0 <+: B' ∧ Slots N (τ st).fr B' a ∧ Mem w0 bs (τ st).H B' w
theorem ord_ok {N n0 : Nat} (keep : List Nat) (mv : Mw) (ks : List Nat) : TidyOk N n0 (St.ord n0 keep mv ks) := by
  intro w0 bs st B a w h hm hn
  obtain ⟨B1, p1, h1, m1⟩ := openNils_ok mv h hm
  have hl := p1.length_le
  obtain ⟨B2, p2, h2, m2⟩ := ord1_ok h1 m1 (n0 := n0) (by omega) keep (ordJs n0 keep mv (mv.foldl openNil st)) (fun j hj => by
    have := (List.mem_filter.1 hj).2
    simp only [Bool.and_eq_true, Nat.blt_eq] at this
    exact this.2)
  refine ⟨B2, ?_, h2, softs_mem ks m2⟩
  obtain ⟨l, rfl⟩ := p1
  rwa [List.take_append_of_le_length hn] at p2
section
variable {P : Program} {C : Cfg} {N : Nat}
/-- a round: what is kept behind it -/
def roundG (P : Program) (C : Cfg) (Lb : Nat → St → Option (T (Ex × St))) (N : Nat) (id : Nat) (body : Code) (τ : St → St) (st : St) : T (Ex × St) :=
  (runC P C Lb N body st).bind fun r => match r.1 with
    | .normal => .leaf (.normal, τ r.2)
    | .exit k => bif Nat.beq k id then .leaf (.exit id, τ r.2) else .leaf r
    | .ret => .leaf r
/-- loops, whatever puts memory in order -/
theorem loop_gen (hC : CfgOk P C) (hP : P.follows .mixedOrders = true) {Lb : Nat → St → Option (T (Ex × St))} {id : Nat} {body : Code} (hlex : lexAll C body = true)
    (hL : ∀ id' b, (id', b) ∈ loopsOf body → ∀ st t, Lb id' st = some t → RunOk P N (.block id' (.loop b)) st t) {ι : Type} (I : ι → Prop) (inv : ι → St) (μ : ι → Nat) (n0 : Nat) {τ : St → St} (hτ : TidyOk N n0 τ) {t : T (Ex × St)}
    (hround : ∀ Qs, t.ok Qs → ∀ i, I i → ∃ st', Alt (inv i) st' ∧ (roundG P C Lb N id body τ st').ok (Behind id I inv μ i Qs)) {st : St} {i0 : ι} (h0 : I i0) :
    RunOk P N (.block id (.loop body)) st (.need (st.H.length = n0) (.need (τ st = inv i0) t)) := by
  intro w0 bs pre B a w Qs Q hp hsl hm hq hQ
  obtain ⟨hn0, hst, hq⟩ := hq
  have hlen : B.length = n0 := hm.sat.len.trans hn0
  have hB0 : B.take n0 = B := List.take_of_length_le (by omega)
  obtain ⟨B0, p0, hsl0, hm0⟩ := hτ w0 bs st B a w hsl hm (by omega)
  rw [hB0] at p0
  rw [hst] at hsl0 hm0
  refine wp_block ?_
  refine wp_loop_idx (ι := ι) (fun i a w => I i ∧ ∃ B1, B <+: B1 ∧ Slots N (inv i).fr B1 a ∧ Mem w0 bs (inv i).H B1 w) μ (fun i a w hi => ?_) i0 a w ⟨h0, _, p0, hsl0, hm0⟩
  obtain ⟨hI, B1, p1, hs, hmi⟩ := hi
  obtain ⟨sa, hal, hro⟩ := hround Qs hq i hI
  refine runC_ok hC hP body hlex hL sa w0 bs B1 B1 a w _ _ (List.prefix_refl _) (hal.2 _ _ _ hs) (by rw [hal.1]; exact hmi) (T.ok_bind hro) fun r B' a' w' hr hpre hs' hm' => ?_
  obtain ⟨e, st'⟩ := r
  have hpB : B <+: B' := p1.trans hpre
  have hBt : B'.take n0 = B := by
    obtain ⟨l, rfl⟩ := hpB
    rw [← hlen, List.take_left]
  have hnB : n0 ≤ B'.length := by have := hpB.length_le; omega
  obtain ⟨B2, p2, hon, hom⟩ := hτ w0 bs st' B' a' w' hs' hm' hnB
  rw [hBt] at p2
  cases e with
  | normal =>
    obtain ⟨j, hj, hlt, e⟩ := hr
    exact ⟨j, hlt, hj, B2, p2, by rw [← e]; exact hon, by rw [← e]; exact hom⟩
  | ret => exact hQ _ B' a' w' hr (hp.trans hpB) hs' hm'
  | exit k =>
    simp only [Ex.to, Exit.then, Exit.inBlock]
    by_cases e : k = id
    · subst e
      simp only [Nat.beq_refl, cond_true] at hr
      have hr : (if k = k then Qs (.normal, τ st') else Qs (.exit k, τ st')) := hr
      rw [if_pos rfl] at hr ⊢
      exact hQ _ _ a' w' hr (hp.trans p2) hon hom
    · simp only [nat_beq_ne e, cond_false] at hr
      have hr : (if k = id then Qs (.normal, st') else Qs (.exit k, st')) := hr
      rw [if_neg e] at hr ⊢
      exact hQ _ B' a' w' hr (hp.trans hpB) hs' hm'
/-- loops of which it is known when they end: in the round of n, and in none ahead of it -/
theorem loopG_cnt (hC : CfgOk P C) (hP : P.follows .mixedOrders = true) {Lb : Nat → St → Option (T (Ex × St))} {id : Nat} {body : Code} (hlex : lexAll C body = true)
    (hL : ∀ id' b, (id', b) ∈ loopsOf body → ∀ st t, Lb id' st = some t → RunOk P N (.block id' (.loop b)) st t) {ι : Type} (I : ι → Prop) (inv : ι → St) (μ : ι → Nat) (n0 : Nat) {τ : St → St} (hτ : TidyOk N n0 τ) (n : ι) (cs : List Nat)
    (hround : ∀ i, I i → i ≠ n → (roundG P C Lb N id body τ (inv i)).ok fun r => r.1 = .normal ∧ ∃ j, I j ∧ μ j < μ i ∧ r.2 = inv j) {st : St} {i0 : ι} (h0 : I i0) :
    RunOk P N (.block id (.loop body)) st (.need (st.H.length = n0) (.need (τ st = inv i0) ((roundG P C Lb N id body τ (closeAt cs (inv n))).bind (lastX id)))) := by
  refine loop_gen hC hP hlex hL I inv μ n0 hτ (fun Qs hq i hi => ?_) h0
  by_cases e : i = n
  · subst e
    refine ⟨_, closeAt_alt cs _, T.ok_mono (fun r hr => ?_) (T.ok_bind hq)⟩
    obtain ⟨x, st'⟩ := r
    cases x with
    | normal => exact (hr : False).elim
    | ret => exact hr
    | exit k =>
      unfold Behind
      simp only [lastX] at hr ⊢
      by_cases ek : k = id
      · subst ek
        rw [Nat.beq_refl, cond_true] at hr
        rw [if_pos rfl]; exact hr
      · rw [nat_beq_ne ek, cond_false] at hr
        rw [if_neg ek]; exact hr
  · refine ⟨_, .refl _, T.ok_mono (fun r hr => ?_) (hround i hi e)⟩
    obtain ⟨x, st'⟩ := r
    obtain ⟨h1, j, h2, h3, h4⟩ := hr
    simp only at h1
    subst h1
    exact ⟨j, h2, h3, h4⟩
/-- loops of which it is known when they end, and how -/
theorem loopG_fin (hC : CfgOk P C) (hP : P.follows .mixedOrders = true) {Lb : Nat → St → Option (T (Ex × St))} {id : Nat} {body : Code} (hlex : lexAll C body = true)
    (hL : ∀ id' b, (id', b) ∈ loopsOf body → ∀ st t, Lb id' st = some t → RunOk P N (.block id' (.loop b)) st t) {ι : Type} (I : ι → Prop) (inv : ι → St) (μ : ι → Nat) (n0 : Nat) {τ : St → St} (hτ : TidyOk N n0 τ) (n : ι) (fin : St)
    (hround : ∀ i, I i → i ≠ n → (roundG P C Lb N id body τ (inv i)).ok fun r => r.1 = .normal ∧ ∃ j, I j ∧ μ j < μ i ∧ r.2 = inv j)
    (hend : (roundG P C Lb N id body τ (inv n)).ok fun r => r = (.exit id, fin)) {st : St} {i0 : ι} (h0 : I i0) :
    RunOk P N (.block id (.loop body)) st (.need (st.H.length = n0) (.need (τ st = inv i0) (.leaf (.normal, fin)))) := by
  refine loop_gen hC hP hlex hL I inv μ n0 hτ (fun Qs hq i hi => ?_) h0
  by_cases e : i = n
  · subst e
    refine ⟨_, .refl _, T.ok_mono (fun r hr => ?_) hend⟩
    subst hr
    show if id = id then _ else _
    rw [if_pos rfl]; exact hq
  · refine ⟨_, .refl _, T.ok_mono (fun r hr => ?_) (hround i hi e)⟩
    obtain ⟨x, st'⟩ := r
    obtain ⟨h1, j, h2, h3, h4⟩ := hr
    simp only at h1
    subst h1
    exact ⟨j, h2, h3, h4⟩
end
/-! ### Functions that only read -/
/-- a slice that is read -/
def rowIn (sz : Nat) (H : List Blk) : SV → Option (Nat × (Nat → Nat → Value))
  | .ref k => (match H[k]? with
    | some (.row n z f) => bif Nat.beq z sz then some (n, f) else none
    | some (.vec _ _ z n xs) => bif Nat.beq z sz then some (n, fun i j => cellAt xs (i * sz + j)) else none
    | _ => none)
  | .v (.slice none 0 0) => some (0, fun _ _ => undef)
  | .c (.slice none 0 0) => some (0, fun _ _ => undef)
  | _ => none
theorem rowIn_ok {w0 : World} {bs : List Nat} {H : List Blk} {B : List Value} {w : World} (hm : Mem w0 bs H B w) {sz : Nat} {s : SV} {u : Value} (hs : s.to B = some u) {n : Nat} {f : Nat → Nat → Value} (h : rowIn sz H s = some (n, f)) : ∀ B', BlkSat B' w u (.row n sz f) := by
  intro B'
  have nil : u = .slice none 0 0 → n = 0 → BlkSat B' w u (.row n sz f) := by
    rintro rfl rfl
    exact ⟨none, 0, rfl, Nat.le_refl _, Nat.zero_le _, fun i j hi => absurd hi (Nat.not_lt_zero _)⟩
  unfold rowIn at h
  split at h
  · rename_i k
    split at h
    · rename_i n' z f' hk
      cases hb : Nat.beq z sz
      · rw [hb] at h; cases h
      · rw [hb, cond_true, Option.some.injEq, Prod.mk.injEq] at h
        obtain ⟨rfl, rfl⟩ := h
        have := Nat.eq_of_beq_eq_true hb
        subst this
        exact hm.sat.blk k _ u hk hs
    · rename_i o e z n' xs hk
      cases hb : Nat.beq z sz
      · rw [hb] at h; cases h
      · rw [hb, cond_true, Option.some.injEq, Prod.mk.injEq] at h
        obtain ⟨rfl, rfl⟩ := h
        have := Nat.eq_of_beq_eq_true hb
        subst this
        exact rowBlk_sat (hm.sat.blk k _ u hk hs)
    · cases h
  · simp only [Option.some.injEq, Prod.mk.injEq] at h
    simp only [SV.to, Option.some.injEq] at hs
    exact nil hs.symm h.1.symm
  · simp only [Option.some.injEq, Prod.mk.injEq] at h
    simp only [SV.to, Option.some.injEq] at hs
    exact nil hs.symm h.1.symm
  · cases h
/-- the parts of a struct -/
def aggOf : SV → Option (List SV)
  | .agg l => some (l.map openS)
  | .v (.agg ⟨l⟩) => some (l.map .v)
  | .c (.agg ⟨l⟩) => some (l.map .v)
  | _ => none
theorem aggOf_ok {B : List Value} {s : SV} {u : Value} (hs : s.to B = some u) {l : List SV} (h : aggOf s = some l) : ∃ vs, SV.tos B l = some vs ∧ u = .agg vs.toArray := by
  unfold aggOf at h
  split at h
  · simp only [Option.some.injEq] at h; subst h
    simp only [SV.to, Option.map_eq_some_iff] at hs
    obtain ⟨vs, h1, h2⟩ := hs
    exact ⟨vs, by rw [opens_tos]; exact h1, h2.symm⟩
  · simp only [Option.some.injEq] at h; subst h
    simp only [SV.to, Option.some.injEq] at hs
    exact ⟨_, tos_plain _ _, hs.symm⟩
  · simp only [Option.some.injEq] at h; subst h
    simp only [SV.to, Option.some.injEq] at hs
    exact ⟨_, tos_plain _ _, hs.symm⟩
  · cases h
theorem tos_cons {B : List Value} {s : SV} {l : List SV} {vs : List Value} (h : SV.tos B (s :: l) = some vs) : ∃ x xs, s.to B = some x ∧ SV.tos B l = some xs ∧ vs = x :: xs := by
  simp only [SV.tos] at h
  split at h
  · rename_i x xs h1 h2
    simp only [Option.some.injEq] at h
    exact ⟨x, xs, h1, h2, h.symm⟩
  · cases h
theorem tos_nil {B : List Value} {vs : List Value} (h : SV.tos B [] = some vs) : vs = [] := by simpa [SV.tos] using h.symm
/-- a contract of a function that only reads -/
def addR (k : FuncId) (h : List SV → List Blk → Option (List Prop × Value)) (F : LTab) : LTab := fun f ss H => bif Nat.beq f k then (match h (ss.map openS) H with
  | some (p, v) => some (needs p (.leaf (.v v, H)))
  | none => none) else F f ss H
def ReadOk (P : Program) (k : FuncId) (h : List SV → List Blk → Option (List Prop × Value)) : Prop :=
  ∀ ss H p v, h ss H = some (p, v) → ∀ (bs : List Nat) (B : List Value) (w : World) (vs : List Value), Mem w bs H B w → SV.tos B ss = some vs → (∀ q ∈ p, q) → Calls P k vs.toArray w fun e w' => e = .returned v ∧ Below w.heap.size w w'
theorem addR_ok {P : Program} {k : FuncId} {h : List SV → List Blk → Option (List Prop × Value)} {F : LTab} (hF : LOk P F) (hg : isGo P k = true) (hh : ReadOk P k h) : LOk P (addR k h F) := by
  intro f ss H t hf
  unfold addR at hf
  cases hb : Nat.beq f k
  · rw [hb] at hf; exact hF f ss H t hf
  · rw [hb, cond_true] at hf
    obtain rfl : f = k := Nat.eq_of_beq_eq_true hb
    split at hf
    · rename_i p v hpv
      simp only [Option.some.injEq] at hf
      subst hf
      refine ⟨hg, fun bs B w vs hm hv Qs hq => ?_⟩
      obtain ⟨h1, h2⟩ := needs_ok hq
      refine (hh _ _ p v hpv bs B w vs hm (by rw [opens_tos]; exact hv) h1).mono ?_
      rintro e w' ⟨rfl, hbw⟩
      exact ⟨.v v, H, B, v, h2, List.prefix_refl _, rfl, rfl, hm.below hbw⟩
    · cases hf
end Go.Proofs.Ytodfcalaggfldaa.Sym

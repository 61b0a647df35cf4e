/- The symbolic evaluator: loops. No conditions. -/
import Derived.Test.YtapogkodlempkaaSym7
namespace Go.Proofs.Ytapogkodlempkaa.Sym
set_option linter.unusedVariables false
set_option linter.unusedSimpArgs false
open Go.RowKit

/-- a loop by something that goes down -/
theorem wp_loop_idx {P : Program} {Q : Exit → Act → World → Prop} {c : Code} {ι : Type} (I : ι → Act → World → Prop) (μ : ι → Nat)
    (round : ∀ i a w, I i a w → c.wp P (Exit.then (fun a' w' => ∃ j, μ j < μ i ∧ I j a' w') Q) a w) : ∀ i a w, I i a w → (Code.loop c).wp P Q a w := by
  intro i a w h₀ b k cs
  have key : ∀ n i a w, μ i = n → I i a w →
      ∃ e a' w', Q e a' w' ∧ Arrives P (lone (b.at a (.code c :: .inLoop c :: k)) cs w) b k cs e a' w' := by
    intro n
    induction n using Nat.strongRecOn with
    | _ n ih =>
      intro i a w hn hI
      obtain ⟨e, a₁, w₁, hq, harr⟩ := round i a w hI b (.inLoop c :: k) cs
      cases e with
      | normal =>
        obtain ⟨j, hlt, hI₁⟩ := hq
        obtain ⟨e₂, a₂, w₂, hq₂, harr₂⟩ := ih (μ j) (hn ▸ hlt) j a₁ w₁ rfl hI₁
        exact ⟨e₂, a₂, w₂, hq₂, .of_steps (Steps.trans harr (.one step_inLoop)) harr₂⟩
      | exit id => exact ⟨_, a₁, w₁, hq, .pass (x := .inLoop c) rfl (fun _ _ => .inl (by simp)) harr⟩
      | goto l => exact ⟨_, a₁, w₁, hq, .pass (x := .inLoop c) rfl (fun _ _ => .inl (by simp)) harr⟩
      | ret => exact ⟨_, a₁, w₁, hq, .pass (x := .inLoop c) rfl (fun _ _ => .inl (by simp)) harr⟩
      | panic ch => exact ⟨_, a₁, w₁, hq, .pass (x := .inLoop c) rfl (fun _ _ => .inl (by simp)) harr⟩
      | outgrown => exact ⟨_, a₁, w₁, hq, .pass (x := .inLoop c) rfl (fun _ _ => .inl (by simp)) harr⟩
  obtain ⟨e, a', w', hq, harr⟩ := key _ i a w rfl h₀
  exact ⟨e, a', w', hq, .of_steps (.one step_loop) harr⟩

/-! ### What is kept of a state -/
mutual
/-- only the first n letters occur -/
def SV.under (n : Nat) : SV → Bool
  | .v _ | .c _ | .tt | .ff => true
  | .ptr k _ | .ref k | .elt k _ _ _ => Nat.blt k n
  | .agg l | .tup l => SV.unders n l
  | .clo _ a b => SV.unders n a && SV.unders n b
  | .ifc _ s => SV.under n s
def SV.unders (n : Nat) : List SV → Bool
  | [] => true
  | s :: l => SV.under n s && SV.unders n l
end
theorem getElem?_of_prefix {B B2 : List Value} (h : B <+: B2) {k : Nat} (hk : k < B.length) : B[k]? = B2[k]? := by
  obtain ⟨t, rfl⟩ := h
  rw [List.getElem?_append_left hk]
mutual
theorem SV.under_to {B B2 : List Value} (h : B <+: B2) : ∀ {s : SV}, s.under B.length = true → s.to B = s.to B2
  | .v _, _ => rfl
  | .c _, _ => rfl
  | .tt, _ => rfl
  | .ff, _ => rfl
  | .ptr k off, e => by
    have hk : k < B.length := by simpa [SV.under, Nat.blt_eq] using e
    simp only [SV.to, getElem?_of_prefix h hk]
  | .ref k, e => by
    have hk : k < B.length := by simpa [SV.under, Nat.blt_eq] using e
    simp only [SV.to, getElem?_of_prefix h hk]
  | .elt k _ _ _, e => by
    have hk : k < B.length := by simpa [SV.under, Nat.blt_eq] using e
    simp only [SV.to, getElem?_of_prefix h hk]
  | .agg l, e => by simp only [SV.to, SV.unders_tos h (l := l) e]
  | .tup l, e => by simp only [SV.to, SV.unders_tos h (l := l) e]
  | .clo fn a b, e => by
    simp only [SV.under, Bool.and_eq_true] at e
    simp only [SV.to, SV.unders_tos h (l := a) e.1, SV.unders_tos h (l := b) e.2]
  | .ifc t s, e => by simp only [SV.to, SV.under_to h (s := s) e]
theorem SV.unders_tos {B B2 : List Value} (h : B <+: B2) : ∀ {l : List SV}, SV.unders B.length l = true → SV.tos B l = SV.tos B2 l
  | [], _ => rfl
  | s :: l, e => by
    simp only [SV.unders, Bool.and_eq_true] at e
    simp only [SV.tos, SV.under_to h e.1, SV.unders_tos h e.2]
end
def cutS (n : Nat) : Option SV → Option SV
  | some s => bif s.under n then some s else none
  | none => none
def cutBlk (n : Nat) : Blk → Blk
  | .own cells => bif SV.unders n cells then .own cells else .gone
  | b => b
def St.only (keep : List Nat) (n : Nat) (st : St) : St := ⟨keep.map fun t => (t, cutS n (look st.fr t)), (st.H.take n).map (cutBlk n)⟩
theorem look_only {keep : List Nat} {g : Nat → Option SV} {t : Nat} {s : SV} (h : look (keep.map fun t => (t, g t)) t = some s) : g t = some s := by
  induction keep with
  | nil => simp [look] at h
  | cons u l ih =>
    simp only [List.map_cons, look] at h
    cases hb : Nat.beq u t
    · rw [hb, cond_false] at h; exact ih h
    · rw [hb, cond_true] at h
      obtain rfl := Nat.eq_of_beq_eq_true hb
      exact h
theorem only_slots {N : Nat} {st : St} {B B2 : List Value} {a : Act} (h : Slots N st.fr B2 a) (hp : B <+: B2) (keep : List Nat) : Slots N (st.only keep B.length).fr B a := by
  refine ⟨h.size, h.defers, fun t s e => ?_⟩
  have e := look_only e
  unfold cutS at e
  split at e
  · rename_i s' hs
    cases hb : s'.under B.length
    · rw [hb] at e; cases e
    · rw [hb, cond_true, Option.some.injEq] at e
      subst e
      rw [SV.under_to hp hb]
      exact h.slot t s' hs
  · cases e
theorem only_get {H : List Blk} {n k : Nat} {x : Blk} (h : ((H.take n).map (cutBlk n))[k]? = some x) : k < n ∧ ∃ y, H[k]? = some y ∧ x = cutBlk n y := by
  rw [List.getElem?_map, List.getElem?_take] at h
  split at h
  · rename_i hk
    cases hy : H[k]? with
    | none => rw [hy] at h; cases h
    | some y =>
      rw [hy] at h
      simp only [Option.map_some, Option.some.injEq] at h
      exact ⟨hk, y, rfl, h.symm⟩
  · cases h
theorem cutBlk_excl {n : Nat} {y : Blk} (h : (cutBlk n y).excl = true) : y.excl = true := by
  cases y <;> first | exact h | rfl
theorem cutBlk_row {n : Nat} {y : Blk} {m sz : Nat} {f : Nat → Nat → Value} (h : cutBlk n y = .row m sz f) : y = .row m sz f := by
  cases y with
  | own cells =>
    simp only [cutBlk] at h
    cases hb : SV.unders n cells <;> rw [hb] at h <;> cases h
  | _ => exact h
theorem only_mem {w0 : World} {bs : List Nat} {H : List Blk} {B B2 : List Value} {w : World} (h : Mem w0 bs H B2 w) (hp : B <+: B2) : Mem w0 bs ((H.take B.length).map (cutBlk B.length)) B w := by
  have hle : B.length ≤ B2.length := hp.length_le
  have hb : ∀ {k : Nat}, k < B.length → B[k]? = B2[k]? := fun hk => getElem?_of_prefix hp hk
  have ex : ∀ k b, ExBlk ((H.take B.length).map (cutBlk B.length)) B k b → ExBlk H B2 k b := by
    rintro k b ⟨x, u, h1, h2, h3, h4⟩
    obtain ⟨hk, y, hy, rfl⟩ := only_get h1
    exact ⟨y, u, hy, cutBlk_excl h2, by rw [← hb hk]; exact h3, h4⟩
  have rd : ∀ k b, RdBlk ((H.take B.length).map (cutBlk B.length)) B k b → RdBlk H B2 k b := by
    rintro k b ⟨m, sz, f, u, h1, h2, h3, h4, h5⟩
    obtain ⟨hk, y, hy, e⟩ := only_get h1
    exact ⟨m, sz, f, u, by rw [hy, cutBlk_row e.symm], h2, h3, by rw [← hb hk]; exact h4, h5⟩
  refine ⟨⟨?_, fun k x u hk hu => ?_, fun k j b h1 h2 => h.sat.sep k j b (ex _ _ h1) (ex _ _ h2), fun k j b h1 h2 => h.sat.far k j b (ex _ _ h1) (rd _ _ h2)⟩, h.keeps, fun k b h1 => h.good k b (ex _ _ h1)⟩
  · simp [← h.sat.len]; omega
  · obtain ⟨hkn, y, hy, rfl⟩ := only_get hk
    have hs := h.sat.blk k y u hy (by rw [← hb hkn]; exact hu)
    cases y with
    | own cells =>
      simp only [cutBlk]
      cases hbl : SV.unders B.length cells
      · exact trivial
      · rw [cond_true]
        obtain ⟨b, vs, h1, h2, h3⟩ := hs
        exact ⟨b, vs, h1, by rw [SV.unders_tos hp hbl]; exact h2, h3⟩
    | _ => exact hs

/-! ### Loops -/
section
variable {P : Program} {C : Cfg} {N : Nat}
/-- a round: what is kept behind it -/
def roundT (P : Program) (C : Cfg) (Lb : Nat → St → Option (T (Ex × St))) (N : Nat) (id : Nat) (body : Code) (keep : List Nat) (st : St) : T (Ex × St) :=
  (runC P C Lb N body st).bind fun r => match r.1 with
    | .normal => .leaf (.normal, r.2.only keep st.H.length)
    | .exit k => bif Nat.beq k id then .leaf (.exit id, r.2.only keep st.H.length) else .leaf r
    | .ret => .leaf r
/-- what is to hold behind a round -/
def Behind {ι : Type} (id : Nat) (I : ι → Prop) (inv : ι → St) (μ : ι → Nat) (i : ι) (Qs : Ex × St → Prop) (r : Ex × St) : Prop :=
  match r.1 with
  | .normal => ∃ j, I j ∧ μ j < μ i ∧ r.2 = inv j
  | .exit k => if k = id then Qs (.normal, r.2) else Qs r
  | .ret => Qs r
theorem nat_beq_ne {a b : Nat} (h : a ≠ b) : Nat.beq a b = false := by
  cases hb : Nat.beq a b
  · rfl
  · exact absurd (Nat.eq_of_beq_eq_true hb) h
theorem loop_core (hC : CfgOk P C) (hP : P.follows .mixedOrders = true) {Lb : Nat → St → Option (T (Ex × St))} {id : Nat} {body : Code} (hlex : lexAll C.E body = true)
    (hL : ∀ id' b, (id', b) ∈ loopsOf body → ∀ st t, Lb id' st = some t → RunOk P N (.block id' (.loop b)) st t) {ι : Type} (I : ι → Prop) (inv : ι → St) (μ : ι → Nat) (keep : List Nat) {t : T (Ex × St)}
    (hround : ∀ Qs, t.ok Qs → ∀ i, I i → (roundT P C Lb N id body keep (inv i)).ok (Behind id I inv μ i Qs)) {i0 : ι} (h0 : I i0) {w0 : World} {bs : List Nat} {pre B : List Value} {a : Act} {w : World} {Qs : Ex × St → Prop} {Q : Exit → Act → World → Prop} (hp : pre <+: B) (hsl0 : Slots N (inv i0).fr B a) (hm0 : Mem w0 bs (inv i0).H B w) (hq : t.ok Qs)
    (hQ : ∀ (r : Ex × St) B' a' w', Qs r → pre <+: B' → Slots N r.2.fr B' a' → Mem w0 bs r.2.H B' w' → Q r.1.to a' w') : (Code.block id (.loop body)).wp P Q a w := by
  refine wp_block ?_
  refine wp_loop_idx (ι := ι) (fun i a w => I i ∧ Slots N (inv i).fr B a ∧ Mem w0 bs (inv i).H B w) μ (fun i a w hi => ?_) i0 a w ⟨h0, hsl0, hm0⟩
  obtain ⟨hI, hs, hmi⟩ := hi
  have hBl : B.length = (inv i).H.length := hmi.sat.len
  refine runC_ok hC hP body hlex hL (inv i) w0 bs B B a w _ _ (List.prefix_refl _) hs hmi (T.ok_bind (hround Qs hq i hI)) fun r B' a' w' hr hpre hs' hm' => ?_
  obtain ⟨e, st'⟩ := r
  have hon := only_slots hs' hpre keep
  have hom := only_mem hm' hpre
  rw [hBl] at hon hom
  cases e with
  | normal =>
    obtain ⟨j, hj, hlt, e⟩ := hr
    exact ⟨j, hlt, hj, by rw [← e]; exact hon, by rw [← e]; exact hom⟩
  | ret => exact hQ _ B' a' w' hr (hp.trans hpre) hs' hm'
  | exit k =>
    simp only [Ex.to, Exit.then, Exit.inBlock]
    by_cases e : k = id
    · subst e
      simp only [Nat.beq_refl, cond_true] at hr
      have hr : (if k = k then Qs (.normal, st'.only keep (inv i).H.length) else Qs (.exit k, st'.only keep (inv i).H.length)) := hr
      rw [if_pos rfl] at hr ⊢
      exact hQ _ B a' w' hr hp hon hom
    · simp only [nat_beq_ne e, cond_false] at hr
      have hr : (if k = id then Qs (.normal, st') else Qs (.exit k, st')) := hr
      rw [if_neg e] at hr ⊢
      exact hQ _ B' a' w' hr (hp.trans hpre) hs' hm'
theorem loop_ok (hC : CfgOk P C) (hP : P.follows .mixedOrders = true) {Lb : Nat → St → Option (T (Ex × St))} {id : Nat} {body : Code} (hlex : lexAll C.E body = true)
    (hL : ∀ id' b, (id', b) ∈ loopsOf body → ∀ st t, Lb id' st = some t → RunOk P N (.block id' (.loop b)) st t) {ι : Type} (I : ι → Prop) (inv : ι → St) (μ : ι → Nat) (keep : List Nat) {n : Nat} (hn : ∀ i, (inv i).H.length = n) {t : T (Ex × St)}
    (hround : ∀ Qs, t.ok Qs → ∀ i, I i → (roundT P C Lb N id body keep (inv i)).ok (Behind id I inv μ i Qs)) {st : St} {i0 : ι} (h0 : I i0) :
    RunOk P N (.block id (.loop body)) st (.need (st.only keep st.H.length = inv i0) t) := by
  intro w0 bs pre B a w Qs Q hp hsl hm hq hQ
  obtain ⟨hst, hq⟩ := hq
  have hlen : B.length = st.H.length := hm.sat.len
  have hsl0 := only_slots hsl (List.prefix_refl B) keep
  have hm0 := only_mem hm (List.prefix_refl B)
  rw [hlen, hst] at hsl0
  have hm0 : Mem w0 bs (inv i0).H B w := by
    have e : (inv i0).H = (st.H.take B.length).map (cutBlk B.length) := by rw [← hst, hlen]; rfl
    rw [e]; exact hm0
  exact loop_core hC hP hlex hL I inv μ keep hround h0 hp hsl0 hm0 hq hQ
/-- what is kept at a loop's beginning, some letters as arrays of numbers -/
def St.soft (ks keep : List Nat) (st : St) : St := ⟨(st.only keep st.H.length).fr, ks.foldl softAt (st.only keep st.H.length).H⟩
/-- as loop_ok; at the beginning some letters become arrays of numbers -/
theorem loop_ok2 (hC : CfgOk P C) (hP : P.follows .mixedOrders = true) {Lb : Nat → St → Option (T (Ex × St))} {id : Nat} {body : Code} (hlex : lexAll C.E body = true)
    (hL : ∀ id' b, (id', b) ∈ loopsOf body → ∀ st t, Lb id' st = some t → RunOk P N (.block id' (.loop b)) st t) {ι : Type} (I : ι → Prop) (inv : ι → St) (μ : ι → Nat) (keep : List Nat) (ks : List Nat) {t : T (Ex × St)}
    (hround : ∀ Qs, t.ok Qs → ∀ i, I i → (roundT P C Lb N id body keep (inv i)).ok (Behind id I inv μ i Qs)) {st : St} {i0 : ι} (h0 : I i0) :
    RunOk P N (.block id (.loop body)) st (.need (st.soft ks keep = inv i0) t) := by
  intro w0 bs pre B a w Qs Q hp hsl hm hq hQ
  obtain ⟨hst, hq⟩ := hq
  have hlen : B.length = st.H.length := hm.sat.len
  have hsl0 := only_slots hsl (List.prefix_refl B) keep
  have hm0 := softs_mem ks (only_mem hm (List.prefix_refl B))
  rw [hlen] at hsl0
  have e1 : (st.only keep st.H.length).fr = (inv i0).fr := by rw [← hst]; rfl
  rw [e1] at hsl0
  have hm0 : Mem w0 bs (inv i0).H B w := by
    have e : (inv i0).H = ks.foldl softAt ((st.H.take B.length).map (cutBlk B.length)) := by rw [← hst, hlen]; rfl
    rw [e]; exact hm0
  exact loop_core hC hP hlex hL I inv μ keep hround h0 hp hsl0 hm0 hq hQ
/-- a loop whose rounds are few, and known -/
def unrollB (run : St → T (Ex × St)) (id : Nat) : Nat → St → T (Ex × St)
  | 0, _ => .stuck 38
  | n + 1, st => (run st).bind fun r => match r.1 with
    | .normal => unrollB run id n r.2
    | .exit k => bif Nat.beq k id then .leaf (.normal, r.2) else .leaf r
    | .ret => .leaf r
theorem unroll_ok (hC : CfgOk P C) (hP : P.follows .mixedOrders = true) {Lb : Nat → St → Option (T (Ex × St))} {id : Nat} {body : Code} (hlex : lexAll C.E body = true)
    (hL : ∀ id' b, (id', b) ∈ loopsOf body → ∀ st t, Lb id' st = some t → RunOk P N (.block id' (.loop b)) st t) (n : Nat) (st : St) : RunOk P N (.block id (.loop body)) st (unrollB (runC P C Lb N body) id n st) := by
  intro w0 bs pre B a w Qs Q hp hsl hm hq hQ
  refine wp_block ?_
  refine wp_loop_idx (ι := Nat) (fun m a w => ∃ st B, (unrollB (runC P C Lb N body) id m st).ok Qs ∧ pre <+: B ∧ Slots N st.fr B a ∧ Mem w0 bs st.H B w) (fun m => m) (fun m a w hi => ?_) n a w ⟨st, B, hq, hp, hsl, hm⟩
  obtain ⟨st, B, hq, hp, hsl, hm⟩ := hi
  cases m with
  | zero => exact hq.elim
  | succ m =>
    refine runC_ok hC hP body hlex hL st w0 bs pre B a w _ _ hp hsl hm (T.ok_bind hq) fun r B' a' w' hr hpre hs' hm' => ?_
    obtain ⟨e, st'⟩ := r
    cases e with
    | normal => exact ⟨m, Nat.lt_succ_self _, st', B', hr, hpre, hs', hm'⟩
    | ret => exact hQ _ B' a' w' hr hpre hs' hm'
    | exit k =>
      simp only [Ex.to, Exit.then, Exit.inBlock]
      by_cases e : k = id
      · subst e
        simp only [Nat.beq_refl, cond_true] at hr
        rw [if_pos rfl]
        exact hQ _ B' a' w' hr hpre hs' hm'
      · simp only [nat_beq_ne e, cond_false] at hr
        rw [if_neg e]
        exact hQ _ B' a' w' hr hpre hs' hm'
theorem one_loop {c b : Code} {id : Nat} {L : Nat → St → Option (T (Ex × St))} (h : loopsOf c = [(id, b)]) (hb : ∀ st t, L id st = some t → RunOk P N (.block id (.loop b)) st t) :
    ∀ id' b', (id', b') ∈ loopsOf c → ∀ st t, L id' st = some t → RunOk P N (.block id' (.loop b')) st t := by
  intro id' b' hm
  rw [h, List.mem_singleton, Prod.mk.injEq] at hm
  obtain ⟨rfl, rfl⟩ := hm
  exact hb
theorem two_loops {c b1 b2 : Code} {id1 id2 : Nat} {L : Nat → St → Option (T (Ex × St))} (h : loopsOf c = [(id1, b1), (id2, b2)]) (hb1 : ∀ st t, L id1 st = some t → RunOk P N (.block id1 (.loop b1)) st t) (hb2 : ∀ st t, L id2 st = some t → RunOk P N (.block id2 (.loop b2)) st t) :
    ∀ id' b', (id', b') ∈ loopsOf c → ∀ st t, L id' st = some t → RunOk P N (.block id' (.loop b')) st t := by
  intro id' b' hm
  rw [h] at hm
  simp only [List.mem_cons, Prod.mk.injEq, List.not_mem_nil, or_false] at hm
  rcases hm with ⟨rfl, rfl⟩ | ⟨rfl, rfl⟩
  · exact hb1
  · exact hb2
def loopAt (fn : Func) (k : Nat) : Code := ((loopsOf (fn.body.getD .skip)).getD k (0, .skip)).2
def addL (id : Nat) (f : St → T (Ex × St)) (L : Nat → St → Option (T (Ex × St))) : Nat → St → Option (T (Ex × St)) := fun i st => bif Nat.beq i id then some (f st) else L i st
theorem addL_same {id : Nat} {f : St → T (Ex × St)} {L : Nat → St → Option (T (Ex × St))} {st : St} {t : T (Ex × St)} (h : addL id f L id st = some t) : t = f st := by
  unfold addL at h
  rw [Nat.beq_refl, cond_true, Option.some.injEq] at h
  exact h.symm
theorem addL_other {id i : Nat} {f : St → T (Ex × St)} {L : Nat → St → Option (T (Ex × St))} {st : St} {t : T (Ex × St)} (hne : i ≠ id) (h : addL id f L i st = some t) : L i st = some t := by
  unfold addL at h
  rw [nat_beq_ne hne, cond_false] at h
  exact h
end
end Go.Proofs.Ytapogkodlempkaa.Sym

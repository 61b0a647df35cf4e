/- The symbolic evaluator: that what it says of operations which leave memory as it is is right. No conditions. -/
import Derived.Test.YtapogkodlempkaaSym3
namespace Go.Proofs.Ytapogkodlempkaa.Sym
set_option linter.unusedVariables false
set_option linter.unusedSimpArgs false
open Go.RowKit

section
variable {P : Program} {S : Tab} {N : Nat} {w0 : World} {bs : List Nat}
theorem und_of {t : TypeId} {d : TypeDesc} (h : pureVal P (underlying t) = some d) : P.underlying t = some d := by
  unfold underlying at h
  simp only [program, bind, Sem.bind, pureVal] at h
  split at h
  · rename_i d' hd
    simp only [pure, pureVal, Option.some.injEq] at h
    rw [hd, h]
  · simp [stuck, pureVal] at h
theorem size_of {t : TypeId} {n : Nat} (h : pureVal P (sizeOf t) = some n) (w : World) : (sizeOf t).run P w = .ok n w := pureVal_run h w
theorem fieldOf_run {t : TypeId} {i fo n : Nat} (h : fieldOf P t i = some (fo, n)) (hn : n ≠ 0) (a : Addr) (w : World) : (Instr.fieldAt t (.pointer (some a)) i).run P w = .ok (.pointer (some (a.add fo))) w := by
  unfold fieldOf at h
  split at h
  · rename_i fields hu
    split at h
    · rename_i f hf
      split at h
      · rename_i m hm
        simp only [Option.some.injEq, Prod.mk.injEq] at h
        obtain ⟨rfl, rfl⟩ := h
        have hu' := und_of hu
        have hm' := size_of hm w
        simp [Instr.fieldAt, run_underlying hu', hf, Instr.sureAddr, fieldPlace, hm', hn]
      · cases h
    · cases h
  · cases h
theorem evalField_ok {V : View} {H : List Blk} {B : List Value} {a : Act} (h : Vw V H B a) {w1 : World} (hm : Mem w0 bs H B w1) {o : Oper} {t : TypeId} {x : Operand} {i : Nat} (ho : o.op = .fieldAddr t x i) {Qs : SV → Prop} (hq : (evalField P V o t x i).ok Qs) : ∃ s, Qs s ∧ QuietRes P w0 bs H B a o s := by
  have hex : execOp a.eval o = (do pure (Next.value (← Instr.fieldAt t (a.eval x) i)) : Sem Next) := by unfold execOp; rw [ho]
  unfold evalField at hq
  split at hq
  · rename_i k off hx
    have hv := h.val hx
    split at hq
    · rename_i fo n hf
      cases hb : Nat.beq n 0
      · rw [hb, cond_false] at hq
        have hn : n ≠ 0 := fun e => by subst e; simp at hb
        simp only [SV.to] at hv
        split at hv
        · rename_i b hbk
          simp only [Option.some.injEq] at hv
          refine ⟨_, hq, .of (x := .pointer (some ⟨b, off + fo, none⟩)) (by simp only [SV.to, hbk]) fun w hw => ?_⟩
          rw [hex, ← hv]
          refine run_v ?_
          rw [fieldOf_run hf hn]
          unfold Addr.add
          split <;> simp_all
        · cases hv
      · rw [hb] at hq; exact hq.elim
    · exact hq.elim
  · rename_i k sz j off hx
    have hv := h.val hx
    split at hq
    · rename_i fo n hf
      cases hb : Nat.beq n 0
      · rw [hb, cond_false] at hq
        have hn : n ≠ 0 := fun e => by subst e; simp at hb
        simp only [SV.to] at hv
        split at hv
        · rename_i p l c hbk
          simp only [Option.some.injEq] at hv
          refine ⟨_, hq, .of (x := .pointer (some (p.add (j * sz + (off + fo))))) (by simp only [SV.to, hbk]) fun w hw => ?_⟩
          rw [hex, ← hv]
          refine run_v ?_
          rw [fieldOf_run hf hn, addr_add_add, Nat.add_assoc]
        · cases hv
      · rw [hb] at hq; exact hq.elim
    · exact hq.elim
  · exact evalPure_ok h hq
theorem evalIndexAddr_ok {V : View} {H : List Blk} {B : List Value} {a : Act} (h : Vw V H B a) {w1 : World} (hm : Mem w0 bs H B w1) {o : Oper} {t : TypeId} {x ix : Operand} (ho : o.op = .indexAddr t x ix) {Qs : SV → Prop} (hq : (evalIndexAddr P V o t x ix).ok Qs) : ∃ s, Qs s ∧ QuietRes P w0 bs H B a o s := by
  have hex : execOp a.eval o = (do pure (Next.value (← Instr.indexAt t (a.eval x) (a.eval ix))) : Sem Next) := by unfold execOp; rw [ho]
  unfold evalIndexAddr at hq
  split at hq
  · rename_i k kk z hx hi
    have hv := h.val hx
    have hz := (h.pv hi).symm
    simp only [SV.to] at hv
    split at hq
    · rename_i e m sz f hu hk
      have hk := h.see hk
      split at hq
      · rename_i n hn
        cases hb : Nat.beq n sz && Nat.ble 1 sz
        · rw [hb] at hq; exact hq.elim
        · rw [hb, cond_true] at hq
          simp only [Bool.and_eq_true] at hb
          obtain rfl : n = sz := Nat.eq_of_beq_eq_true hb.1
          have h1 : 1 ≤ n := Nat.le_of_ble_eq_true hb.2
          obtain ⟨⟨z0, z1⟩, hq⟩ := hq
          obtain ⟨p, cap, g1, -, -, g2⟩ := hm.row_at hk
          obtain ⟨a0, rfl, -⟩ := g2 0 0 (by omega) (by omega)
          rw [g1] at hv
          simp only [Option.some.injEq] at hv
          refine ⟨_, hq, .of (x := .pointer (some (a0.add (z.toNat * n)))) (by simp only [SV.to, g1]; simp) fun w hw => ?_⟩
          rw [hex, ← hv, ← hz]
          refine run_v ?_
          have hu' := und_of hu
          have hn' := size_of hn w
          simp [Instr.indexAt, run_underlying hu', asIntOf, hn', z0, z1]
      · exact hq.elim
    · rename_i e e' sz m xs hu hk
      have hk := h.see hk
      split at hq
      · rename_i n hn
        cases hb : Nat.beq n sz && Nat.ble 1 sz
        · rw [hb] at hq; exact hq.elim
        · rw [hb, cond_true] at hq
          simp only [Bool.and_eq_true] at hb
          obtain rfl : n = sz := Nat.eq_of_beq_eq_true hb.1
          have h1 : 1 ≤ n := Nat.le_of_ble_eq_true hb.2
          obtain ⟨⟨z0, z1⟩, hq⟩ := hq
          obtain ⟨u, hu0⟩ := hm.sat.getB hk
          have hs : VecSat w1 e' n u m xs := hm.sat.blk k _ u hk hu0
          obtain ⟨a0, cap, rfl⟩ : ∃ a0 cap, u = .slice (some a0) m cap := by
            rcases hs.view.2 with ⟨-, hm0⟩ | ⟨b, cap, rfl, -⟩
            · omega
            · exact ⟨_, cap, rfl⟩
          have g1 := hu0
          rw [g1] at hv
          simp only [Option.some.injEq] at hv
          refine ⟨_, hq, .of (x := .pointer (some (a0.add (z.toNat * n)))) (by simp only [SV.to, g1]; simp) fun w hw => ?_⟩
          rw [hex, ← hv, ← hz]
          refine run_v ?_
          have hu' := und_of hu
          have hn' := size_of hn w
          simp [Instr.indexAt, run_underlying hu', asIntOf, hn', z0, z1]
      · exact hq.elim
    · exact hq.elim
  · rename_i k off kk z hx hi
    have hv := h.val hx
    have hz := (h.pv hi).symm
    split at hq
    · rename_i m e hu
      split at hq
      · rename_i n hn
        obtain ⟨⟨z0, z1⟩, hq⟩ := hq
        simp only [SV.to] at hv
        split at hv
        · rename_i b hbk
          simp only [Option.some.injEq] at hv
          refine ⟨_, hq, .of (x := .pointer (some ⟨b, off + z.toNat * n, none⟩)) (by simp only [SV.to, hbk]) fun w hw => ?_⟩
          rw [hex, ← hv, ← hz]
          refine run_v ?_
          have hu' := und_of hu
          have hn' := size_of hn w
          simp [Instr.indexAt, run_underlying hu', asIntOf, hn', z0, z1, Instr.sureAddr]
          unfold Addr.add
          split <;> simp_all
        · cases hv
      · exact hq.elim
    · exact hq.elim
  · exact evalPure_ok h hq
theorem evalIndex_ok {V : View} {H : List Blk} {B : List Value} {a : Act} (h : Vw V H B a) {o : Oper} {t : TypeId} {x ix : Operand} (ho : o.op = .index t x ix) {Qs : SV → Prop} (hq : (evalIndex P V o t x ix).ok Qs) : ∃ s, Qs s ∧ QuietRes P w0 bs H B a o s := by
  have hex : execOp a.eval o = (do pure (Next.value (← Instr.index t (a.eval x) (a.eval ix))) : Sem Next) := by unfold execOp; rw [ho]
  unfold evalIndex at hq
  split at hq
  · rename_i s kk z hx hi
    have hv := (h.pv hx).symm
    have hz := (h.pv hi).symm
    split at hq
    · rename_i hu
      obtain ⟨⟨z0, z1⟩, hq⟩ := hq
      refine ⟨_, hq, .of rfl fun w hw => ?_⟩
      rw [hex, ← hv, ← hz]
      refine run_v ?_
      have hu' := und_of hu
      have hlt : z.toNat < s.size := by omega
      have hge : s[z.toNat]? = some s[z.toNat] := getElem?_pos s z.toNat hlt
      have hd : s.data.toList.getD z.toNat 0 = s[z.toNat] := by
        rw [List.getD_eq_getElem?_getD, List.getElem?_eq_getElem (by simpa using hlt)]
        simp; rfl
      unfold byteAt
      rw [hd]
      simp [Instr.index, run_underlying hu', asIntOf, z0, hge]
    · exact hq.elim
  · rename_i cs kk z hx hi
    cases hcc : isConc V ix
    · rw [hcc, cond_false] at hq
      have hv := (h.pv hx).symm
      have hz := (h.pv hi).symm
      split at hq
      · rename_i m e hu
        split at hq
        · rename_i K hK hsz hag
          obtain ⟨⟨z0, z1⟩, hc, hq⟩ := hq
          refine ⟨_, hq, .of rfl fun w hw => ?_⟩
          rw [hex, ← hv, ← hz]
          refine run_v ?_
          have hu' := und_of hu
          unfold cellIs at hc
          have hpart : (part e cs (z.toNat * 1)).run P w = .ok (K.mk (cellOf cs z.toNat)) w := by
            unfold part
            rw [run_bind_pure hag]
            simp only [Bool.false_eq_true, if_false, Nat.mul_one, hc]
            rfl
          have hasI : (asIntOf (.int kk z)).run P w = .ok (kk, z) w := rfl
          show (Instr.index t (.agg cs) (.int kk z)).run P w = _
          unfold Instr.index
          rw [run_bind_ok hasI]
          simp only
          rw [run_bind_ok (run_underlying hu' w)]
          simp only [z0, z1, and_self, if_true]
          rw [run_bind_pure hsz]
          exact hpart
        · exact hq.elim
      · exact hq.elim
    · rw [hcc, cond_true] at hq
      exact evalPure_ok h hq
  · exact evalPure_ok h hq
theorem intO_some {V : View} {H : List Blk} {B : List Value} {a : Act} (h : Vw V H B a) {d : Int} {x : Option Operand} {z : Int} (e : intO V d x = some z) : (x = none ∧ z = d) ∨ ∃ y k, x = some y ∧ a.eval y = .int k z := by
  unfold intO at e
  split at e
  · simp only [Option.some.injEq] at e; exact .inl ⟨rfl, e.symm⟩
  · rename_i y
    split at e
    · rename_i k z' hy
      have := h.pv hy
      simp only [Option.some.injEq] at e
      subst e
      exact .inr ⟨y, k, rfl, this⟩
    · cases e
theorem sliceBound_run (k : IntKind) (z : Int) (y : Nat) (c : BoundsCode) (h0 : 0 ≤ z) (h1 : z ≤ y) (w : World) : (Instr.sliceBound (.int k z) y c).run P w = .ok z.toNat w := by
  simp [Instr.sliceBound, asIntOf, h0, h1]
theorem evalSlice_ok {V : View} {H : List Blk} {B : List Value} {a : Act} (h : Vw V H B a) {o : Oper} {t : TypeId} {x : Operand} {lo hi : Option Operand} (ho : o.op = .slice t x lo hi none) {Qs : SV → Prop} (hq : (evalSlice P V o t x lo hi).ok Qs) : ∃ s, Qs s ∧ QuietRes P w0 bs H B a o s := by
  have hex : execOp a.eval o = (do pure (Next.value (← Instr.sliceAt t (a.eval x) (lo.map a.eval) (hi.map a.eval) none)) : Sem Next) := by unfold execOp; rw [ho]; rfl
  unfold evalSlice at hq
  split at hq
  · rename_i s hx
    have hv := (h.pv hx).symm
    split at hq
    · rename_i l z hu hl hz
      obtain ⟨⟨l0, l1, z1⟩, hq⟩ := hq
      refine ⟨_, hq, .of rfl fun w hw => ?_⟩
      rw [hex, ← hv]
      refine run_v ?_
      have hu' := und_of hu
      have hz0 : 0 ≤ z := by omega
      rcases intO_some h hl with ⟨rfl, rfl⟩ | ⟨ly, lk, rfl, hly⟩ <;> rcases intO_some h hz with ⟨rfl, rfl⟩ | ⟨hy, hk, rfl, hhy⟩
      · simp [Instr.sliceAt, Instr.slice, run_underlying hu', Instr.sliceBounds]
      · have hs1 := fun c => sliceBound_run (P := P) hk z s.size c hz0 z1 w
        simp [Instr.sliceAt, Instr.slice, run_underlying hu', Instr.sliceBounds, hhy, hs1]
      · have hs2 := fun c => sliceBound_run (P := P) lk l s.size c l0 (by omega) w
        simp [Instr.sliceAt, Instr.slice, run_underlying hu', Instr.sliceBounds, hly, hs2]
      · have hs1 := fun c => sliceBound_run (P := P) hk z s.size c hz0 z1 w
        have hs2 := fun c => sliceBound_run (P := P) lk l z.toNat c l0 (by omega) w
        simp [Instr.sliceAt, Instr.slice, run_underlying hu', Instr.sliceBounds, hly, hhy, hs1, hs2]
    · exact hq.elim
  · exact evalPure_ok h hq
theorem toList_beq0 (a b : ByteArray) : (a.toList == b.toList) = decide (a = b) := by
  rw [Bool.eq_iff_iff]
  simp only [beq_iff_eq, decide_eq_true_eq]
  constructor
  · intro h
    have h1 : a.data.toList = b.data.toList := by simpa [ByteArray.toList_eq] using h
    exact ByteArray.ext (Array.toList_inj.1 h1)
  · intro h; rw [h]
mutual
theorem eqV_ok : ∀ (n d : Nat) (t : TypeId) (x y : Value) (b : Bool), n ≤ d → eqV P n t x y = some b → ∀ w, (Op.equalIn d t x y).run P w = .ok b w
  | 0, _, _, _, _, _, _, h, _ => by simp [eqV] at h
  | n + 1, d, t, x, y, b, hd, h, w => by
    obtain ⟨d, rfl⟩ : ∃ d', d = d' + 1 := ⟨d - 1, by omega⟩
    simp only [eqV] at h
    split at h
    · rename_i hu
      simp only [Option.some.injEq] at h; subst h
      exact run_equalIn_bool' w d t _ _ hu
    · rename_i kk k a k' b' hu
      cases hk : decide (k = k')
      · rw [hk] at h; cases h
      · rw [hk, cond_true, Option.some.injEq] at h
        subst h
        obtain rfl := of_decide_eq_true hk
        exact run_equalIn_int w d t k kk a b' hu
    · rename_i hu
      simp only [Option.some.injEq] at h; subst h
      rw [run_equalIn_string w d t _ _ hu, toList_beq0]
    · rename_i fs xs ys hu
      cases hs : P.stoodInHeld t
      · rw [hs, cond_false] at h
        have hf : P.fieldsOf t = fs := by unfold Program.fieldsOf; rw [hu]
        rw [run_equalIn_agg w d t xs ys (by rw [hf]; exact hu) hs, hf]
        exact eqFs_ok n d xs ys fs.toList b (by omega) h w
      · rw [hs] at h; cases h
    · cases h
theorem eqFs_ok : ∀ (n d : Nat) (xs ys : Array Value) (fs : List Field) (b : Bool), n ≤ d → eqFs P n xs ys fs = some b → ∀ w, (Op.eqFields d xs ys fs).run P w = .ok b w
  | n, d, xs, ys, [], b, _, h, w => by
    cases n <;> (simp only [eqFs, Option.some.injEq] at h; subst h; rfl)
  | 0, _, _, _, _ :: _, _, _, h, _ => by simp [eqFs] at h
  | n + 1, d, xs, ys, f :: fs, b, hd, h, w => by
    simp only [eqFs] at h
    cases hn : (f.name == "_")
    · rw [hn, cond_false] at h
      split at h
      · rename_i va vb ha hb
        split at h
        · rename_i e r he hr
          simp only [Option.some.injEq] at h
          subst h
          have h1 := eqV_ok n d f.type va vb e (by omega) he w
          have h2 := eqFs_ok n d xs ys fs r (by omega) hr w
          have hne : f.name ≠ "_" := by simpa using hn
          simp only [Op.eqFields, if_pos hne]
          rw [run_bind_pure ha, run_bind_pure hb, run_bind_ok h1]
          cases e
          · rfl
          · simpa using h2
        · cases h
      · cases h
    · rw [hn] at h; cases h
end
theorem toList_beq (a b : ByteArray) : (a.toList == b.toList) = decide (a = b) := by
  rw [Bool.eq_iff_iff]
  simp only [beq_iff_eq, decide_eq_true_eq]
  constructor
  · intro h
    have h1 : a.data.toList = b.data.toList := by simpa [ByteArray.toList_eq] using h
    exact ByteArray.ext (Array.toList_inj.1 h1)
  · intro h; rw [h]
theorem evalEq_ok {V : View} {H : List Blk} {B : List Value} {a : Act} (h : Vw V H B a) {o : Oper} {neg : Bool} {op : BinOp} (hop : op = bif neg then .neq else .eql) {t t2 : TypeId} {x y : Operand} (ho : o.op = .binOp op t x y t2) {Qs : SV → Prop} (hq : (evalEq P V o neg t x y).ok Qs) : ∃ s, Qs s ∧ QuietRes P w0 bs H B a o s := by
  have hex : execOp a.eval o = (do pure (Next.value (← (do eqGuard op t x y (a.eval x) (a.eval y); binOp op t (a.eval x) (a.eval y)))) : Sem Next) := by unfold execOp; rw [ho]
  have nilp : ∀ (p : Addr), a.eval x = .pointer (some p) → a.eval y = .pointer none → (∃ e, P.underlying t = some (.pointer e)) → ∀ w, (execOp a.eval o).run P w = .ok (.value (.bool neg)) w := by
    intro p e1 e2 ⟨e, hu⟩ w
    rw [hex, e1, e2]
    refine run_v ?_
    have hpe : P.pointee t = e := by unfold Program.pointee; rw [hu]
    have h1 := run_equal_pointer_nil (P := P) w t (some p) (by rw [hpe]; exact hu)
    subst hop
    cases neg
    · show ((Op.equal t (.pointer (some p)) (.pointer none)) >>= fun b => pure (Value.bool b)).run P w = _
      rw [run_bind_ok h1]; rfl
    · show ((Op.equal t (.pointer (some p)) (.pointer none)) >>= fun b => pure (Value.bool (!b))).run P w = _
      rw [run_bind_ok h1]; rfl
  unfold evalEq at hq
  split at hq
  · rename_i k off hx hy
    have hv := h.val hx
    have hz := h.pv hy
    split at hq
    · rename_i e hu
      simp only [SV.to] at hv
      split at hv
      · simp only [Option.some.injEq] at hv
        refine ⟨_, hq, .of (x := .bool neg) ?_ fun w hw => nilp _ hv.symm hz ⟨e, hu⟩ w⟩
        cases neg <;> rfl
      · cases hv
    · exact hq.elim
  · rename_i k sz i off hx hy
    have hv := h.val hx
    have hz := h.pv hy
    split at hq
    · rename_i e hu
      simp only [SV.to] at hv
      split at hv
      · simp only [Option.some.injEq] at hv
        refine ⟨_, hq, .of (x := .bool neg) ?_ fun w hw => nilp _ hv.symm hz ⟨e, hu⟩ w⟩
        cases neg <;> rfl
      · cases hv
    · exact hq.elim
  · rename_i s ys hx hy
    have hz := h.pv hy
    split at hq
    · rename_i xs hp
      have hv := h.val hx
      rw [SV.plain_to hp B] at hv
      simp only [Option.some.injEq] at hv
      cases hg : P.eqGuardType P.depth t
      · rw [hg, cond_false] at hq
        split at hq
        · rename_i b hb
          refine ⟨_, hq, .of rfl fun w hw => ?_⟩
          rw [hex, ← hv, hz]
          refine run_v ?_
          rw [run_bind_ok (run_eqGuard_agg w op t x y xs ys hg)]
          have h1 := eqV_ok 60 10000 t (.agg xs) (.agg ys) b (by decide) hb w
          subst hop
          cases neg
          · simp only [cond_false]
            rw [run_eql_struct, h1]; rfl
          · simp only [cond_true]
            rw [run_neq_struct, h1]; rfl
        · exact hq.elim
      · rw [hg] at hq; exact hq.elim
    · exact hq.elim
  · exact evalPure_ok h hq
theorem evalBin_ok {V : View} {H : List Blk} {B : List Value} {a : Act} (h : Vw V H B a) {o : Oper} {op : BinOp} {t t2 : TypeId} {x y : Operand} (ho : o.op = .binOp op t x y t2) {Qs : SV → Prop} (hq : (evalBin P V o op t x y).ok Qs) : ∃ s, Qs s ∧ QuietRes P w0 bs H B a o s := by
  have hex : execOp a.eval o = (do pure (Next.value (← (do eqGuard op t x y (a.eval x) (a.eval y); binOp op t (a.eval x) (a.eval y)))) : Sem Next) := by unfold execOp; rw [ho]
  unfold evalBin at hq
  split at hq
  · rename_i s1 s2 hx hy
    have hv := (h.pv hx).symm
    have hz := (h.pv hy).symm
    obtain ⟨hle, hq⟩ := hq
    refine ⟨_, hq, .of rfl fun w hw => ?_⟩
    rw [hex, ← hv, ← hz]
    refine run_v ?_
    have : ¬ ((s1.size + s2.size : Nat) : Int) > IntKind.i64.max := by
      have : IntKind.i64.max = 9223372036854775807 := by decide
      rw [this]; omega
    simp only [eqGuard, binOp, Op.stringOp, if_neg this]
    rfl
  · rename_i s1 s2 hx hy
    have hv := (h.pv hx).symm
    have hz := (h.pv hy).symm
    refine ⟨_, hq, .of rfl fun w hw => ?_⟩
    rw [hex, ← hv, ← hz]
    refine run_v ?_
    simp only [eqGuard, binOp, Op.stringOp, toList_beq]
    rfl
  · rename_i s1 s2 hx hy
    have hv := (h.pv hx).symm
    have hz := (h.pv hy).symm
    refine ⟨_, hq, .of rfl fun w hw => ?_⟩
    rw [hex, ← hv, ← hz]
    refine run_v ?_
    simp only [eqGuard, binOp, Op.stringOp, toList_beq]
    rfl
  · exact evalEq_ok h (neg := false) rfl ho hq
  · exact evalEq_ok h (neg := true) rfl ho hq
  · exact evalPure_ok h hq
theorem run_program (w : World) : (program).run P w = .ok P w := rfl
theorem enter_run {f : FuncId} (hg : isGo P f = true) (xs : Array Value) (w : World) : (callFunc f xs).run P w = .ok (.enter f xs) w := by
  unfold isGo at hg
  split at hg
  · rename_i fn hfn
    simp only [Bool.and_eq_true, Bool.not_eq_true'] at hg
    unfold callFunc
    rw [run_bind_ok (run_program w)]
    simp only [hfn, hg.1, hg.2, Bool.false_eq_true, if_false]
    rfl
  · cases hg
theorem map_toArray (xs : Array Operand) (f : Operand → Value) : xs.map f = (xs.toList.map f).toArray := by
  apply Array.toList_inj.1
  rw [Array.toList_map]
theorem run_typeInfo {t : TypeId} {i : TypeInfo} (h : P.info? t = some i) (w : World) : (typeInfo t).run P w = .ok i w := by
  unfold typeInfo
  rw [run_bind_ok (run_program w)]
  simp only [h]
  rfl
theorem method_run {t : TypeId} {name : String} {f : FuncId} (h : methodOf P t name = some f) (v : Value) (fuel : Nat) (w : World) : (method (fuel + 1) t v name).run P w = .ok (f, v) w := by
  unfold methodOf at h
  split at h
  · rename_i i hi
    split at h
    · rename_i m d hm hd
      have hd' := run_underlying (P := P) hd w
      have hrc : ∀ (ptr : Bool) (wr : Option String), (bif isPtr d then ptr else !ptr) = true → (receiverAt t (.val v) ptr wr).run P w = .ok v w := by
        intro ptr wr hp
        unfold receiverAt
        rw [run_bind_ok hd']
        cases d <;> cases ptr <;> first | rfl | cases hp
      unfold method
      rw [run_bind_ok (run_typeInfo hi w)]
      simp only [hm]
      split at h
      · rename_i f' ptr hf
        cases hp : (m.path.isEmpty && (bif isPtr d then ptr else !ptr))
        · rw [hp] at h; cases h
        · rw [hp, cond_true, Option.some.injEq] at h
          subst h
          simp only [Bool.and_eq_true] at hp
          have hpe : m.path.toList = [] := by simpa using hp.1
          rw [hpe]
          have hf0 : (follow [] t (.val v)).run P w = .ok (t, .val v) w := rfl
          rw [run_bind_ok hf0]
          simp only [hf]
          rw [run_bind_ok (hrc ptr _ hp.2)]
          rfl
      · cases h
    · cases h
  · cases h
/-- the function that is called is entered -/
theorem target_run {V : View} {H : List Blk} {B : List Value} {a : Act} (h : Vw V H B a) {o : Oper} {c : Call} (ho : o.op = .call c) {f : FuncId} {ss : List SV} (ht : target P V c = some (f, ss)) (hg : isGo P f = true) :
    ∃ vs, SV.tos B ss = some vs ∧ ∀ w, (execOp a.eval o).run P w = .ok (.enter f vs.toArray) w := by
  have hex : execOp a.eval o = (do let d ← resolve a.eval c o.type; invoke d.target d.args : Sem Next) := by unfold execOp; rw [ho]
  unfold target at ht
  split at ht
  case h_2 => cases ht
  rename_i av has
  have hargs0 := vals_to h has
  have hargs : c.args.map a.eval = (c.args.toList.map a.eval).toArray := map_toArray _ _
  have clo : ∀ (x : Operand) (A B' : List SV) (xa xb : List Value), c.callee = .value x → SV.tos B A = some xa → SV.tos B B' = some xb → a.eval x = .func (.func f) xa.toArray xb.toArray → ss = A ++ av ++ B' →
      ∃ vs, SV.tos B ss = some vs ∧ ∀ w, (execOp a.eval o).run P w = .ok (.enter f vs.toArray) w := by
    intro x A B' xa xb hc ha hb he hss
    subst hss
    refine ⟨_, tos_append (tos_append ha hargs0) hb, fun w => ?_⟩
    rw [hex]
    unfold resolve
    simp only [hc, he, Deferred.ofValue, hargs]
    show (invoke (.fn (.func f) xb.toArray) (xa.toArray ++ (c.args.toList.map a.eval).toArray)).run P w = _
    simp only [invoke]
    rw [enter_run hg]
    simp
  have inv : ∀ (r : Operand) (name : String) (t : TypeId) (v : Value) (s : SV), c.callee = .invoke r name → a.eval r = .iface t v → s.to B = some v → methodOf P t name = some f → ss = s :: av →
      ∃ vs, SV.tos B ss = some vs ∧ ∀ w, (execOp a.eval o).run P w = .ok (.enter f vs.toArray) w := by
    intro r name t v s hc he hs hm hss
    subst hss
    refine ⟨v :: c.args.toList.map a.eval, by simp [SV.tos, hs, hargs0], fun w => ?_⟩
    rw [hex]
    unfold resolve
    simp only [hc, he, hargs]
    show (invoke (.fn (.method name) #[]) (#[.iface t v] ++ (c.args.toList.map a.eval).toArray)).run P w = _
    have e0 : (#[Value.iface t v] ++ (c.args.toList.map a.eval).toArray)[0]? = some (.iface t v) := by simp
    have e1 : (#[Value.iface t v] ++ (c.args.toList.map a.eval).toArray).extract 1 (#[Value.iface t v] ++ (c.args.toList.map a.eval).toArray).size = (c.args.toList.map a.eval).toArray := by
      apply Array.toList_inj.1; simp
      exact List.take_of_length_le (by simp)
    simp only [invoke, e0, e1, callMethod]
    rw [run_bind_ok (run_program w)]
    have hfu : P.types.size + Made.depth = (P.types.size + 99) + 1 := rfl
    rw [hfu, run_bind_ok (method_run hm v _ w)]
    simp only
    rw [enter_run hg]
    simp
  split at ht
  · rename_i f' hc
    simp only [Option.some.injEq, Prod.mk.injEq] at ht
    obtain ⟨rfl, rfl⟩ := ht
    exact clo (.func f') [] [] [] [] hc rfl rfl rfl (by simp)
  · rename_i x hnf hc
    split at ht
    · rename_i f' A B' hx
      simp only [Option.some.injEq, Prod.mk.injEq] at ht
      obtain ⟨rfl, rfl⟩ := ht
      have hv := h.val hx
      simp only [SV.to] at hv
      split at hv
      · rename_i xa xb h1 h2
        simp only [Option.some.injEq] at hv
        exact clo x A B' xa xb hc h1 h2 hv.symm rfl
      · cases hv
    · rename_i f' A B' hx
      simp only [Option.some.injEq, Prod.mk.injEq] at ht
      obtain ⟨rfl, rfl⟩ := ht
      have hv := h.val hx
      simp only [SV.to, Option.some.injEq] at hv
      exact clo x _ _ A.toList B'.toList hc (tos_plain _ _) (tos_plain _ _) (by simpa using hv.symm) rfl
    · rename_i f' A B' hx
      simp only [Option.some.injEq, Prod.mk.injEq] at ht
      obtain ⟨rfl, rfl⟩ := ht
      have hv := h.val hx
      simp only [SV.to, Option.some.injEq] at hv
      exact clo x _ _ A.toList B'.toList hc (tos_conc _ _) (tos_conc _ _) (by simpa using hv.symm) rfl
    · cases ht
  · rename_i r name hc
    split at ht
    · rename_i t s hx
      simp only [Option.map_eq_some_iff, Prod.mk.injEq] at ht
      obtain ⟨f', hm, rfl, rfl⟩ := ht
      have hv := h.val hx
      simp only [SV.to, Option.map_eq_some_iff] at hv
      obtain ⟨v, h1, h2⟩ := hv
      exact inv r name t v s hc h2.symm h1 hm rfl
    · rename_i t v hx
      simp only [Option.map_eq_some_iff, Prod.mk.injEq] at ht
      obtain ⟨f', hm, rfl, rfl⟩ := ht
      have hv := h.val hx
      simp only [SV.to, Option.some.injEq] at hv
      exact inv r name t v (.v v) hc hv.symm rfl hm rfl
    · rename_i t v hx
      simp only [Option.map_eq_some_iff, Prod.mk.injEq] at ht
      obtain ⟨f', hm, rfl, rfl⟩ := ht
      have hv := h.val hx
      simp only [SV.to, Option.some.injEq] at hv
      exact inv r name t v (.c v) hc hv.symm rfl hm rfl
    · cases ht
  · cases ht
theorem evalCall_ok (hS : TabOk P S) {V : View} {H : List Blk} {B : List Value} {a : Act} (h : Vw V H B a) {w1 : World} (hm : Mem w0 bs H B w1) {o : Oper} {c : Call} (ho : o.op = .call c) {Qs : SV → Prop} (hq : (evalCall P S V o c).ok Qs) : ∃ s, Qs s ∧ QuietRes P w0 bs H B a o s := by
  have hex : execOp a.eval o = (do let d ← resolve a.eval c o.type; invoke d.target d.args : Sem Next) := by unfold execOp; rw [ho]
  unfold evalCall at hq
  cases hb : !isBuiltin c
  case true =>
    rw [hb, cond_true] at hq
    split at hq
    · rename_i f ss htg
      split at hq
      · rename_i xs hxs
        split at hq
        · rename_i t hp
          obtain ⟨hg, hcalls⟩ := hS f xs t hp
          obtain ⟨v, hqv, hpt⟩ := T.ok_point0 (T.ok_bind hq)
          obtain ⟨vs, hvs, hr⟩ := target_run h ho htg hg
          rw [plains_to hxs, Option.some.injEq] at hvs
          subst hvs
          refine ⟨_, hqv, v, rfl, fun w hw => ?_⟩
          unfold Oper.quietAt
          rw [hr]
          exact ⟨rfl, (hcalls v (hpt _ rfl) w).mono fun e w' ⟨he, hb⟩ => ⟨he, hw.below hb⟩⟩
        · exact hq.elim
      · exact hq.elim
    · exact hq.elim
  rw [hb, cond_false] at hq
  split at hq
  · rename_i hc
    split at hq
    · rename_i k hss
      split at hq
      · rename_i n sz f t hk ht
        have hk := h.see hk
        split at hq
        · rename_i e hu
          refine ⟨_, hq, .of rfl fun w hw => ?_⟩
          obtain ⟨p, cap, g1, -, -, g2⟩ := hw.row_at hk
          have h1 := vals_to h hss
          simp only [SV.tos, SV.to, g1, Option.some.injEq] at h1
          have hargs : c.args.map a.eval = #[.slice p n cap] := by
            rw [map_toArray, ← h1]
          rw [hex]
          unfold resolve
          simp only [hc, hargs]
          have hu' := und_of hu
          show (invoke (.builtin .len c.argTypes o.type #[]) #[.slice p n cap]).run P w = _
          simp only [invoke, builtin]
          refine run_v ?_
          simp [Builtin.len_, ht, run_underlying hu', goInt]
        · exact hq.elim
      · rename_i e0 sz n xs t hk ht
        have hk := h.see hk
        split at hq
        · rename_i e hu
          refine ⟨_, hq, .of rfl fun w hw => ?_⟩
          obtain ⟨u, hu0⟩ := hw.sat.getB hk
          have hs : VecSat w e0 sz u n xs := hw.sat.blk k _ u hk hu0
          obtain ⟨p, cap, rfl⟩ : ∃ p cap, u = .slice p n cap := by
            rcases hs.view.2 with ⟨rfl, rfl⟩ | ⟨b, cap, rfl, -⟩
            · exact ⟨_, _, rfl⟩
            · exact ⟨_, cap, rfl⟩
          have g1 := hu0
          have h1 := vals_to h hss
          simp only [SV.tos, SV.to, g1, Option.some.injEq] at h1
          have hargs : c.args.map a.eval = #[.slice p n cap] := by
            rw [map_toArray, ← h1]
          rw [hex]
          unfold resolve
          simp only [hc, hargs]
          have hu' := und_of hu
          show (invoke (.builtin .len c.argTypes o.type #[]) #[.slice p n cap]).run P w = _
          simp only [invoke, builtin]
          refine run_v ?_
          simp [Builtin.len_, ht, run_underlying hu', goInt]
        · exact hq.elim
      · exact hq.elim
    · exact evalPure_ok h hq
  · exact evalPure_ok h hq
theorem zip_maps {α β : Type} : ∀ (l : List α) (m : List β), l.length = m.length → (l.zip m).map (·.2) = m ∧ (l.zip m).map (·.1) = l
  | [], [], _ => ⟨rfl, rfl⟩
  | [], _ :: _, h => by simp at h
  | _ :: _, [], h => by simp at h
  | a :: l, b :: m, h => by
    obtain ⟨h1, h2⟩ := zip_maps l m (by simpa using h)
    simp only [List.zip_cons_cons, List.map_cons, h1, h2]
    exact ⟨trivial, trivial⟩
theorem vals_length {V : View} : ∀ {l : List Operand} {ss : List SV}, vals V l = some ss → ss.length = l.length
  | [], _, e => by simp only [vals, Option.some.injEq] at e; subst e; rfl
  | x :: l, _, e => by
    simp only [vals] at e
    split at e
    · rename_i s ss h1 h2
      simp only [Option.some.injEq] at e; subst e
      simp [vals_length h2]
    · cases e
theorem evalBuildS_ok {V : View} {H : List Blk} {B : List Value} {a : Act} (h : Vw V H B a) {w1 : World} (hm : Mem w0 bs H B w1) {o : Oper} {t : TypeId} {parts : Array (Nat × Operand)} (ho : o.op = .build t parts) {Qs : SV → Prop} (hq : (evalBuildS P V t parts).ok Qs) : ∃ s, Qs s ∧ QuietRes P w0 bs H B a o s := by
  have hex : execOp a.eval o = (do pure (Next.value (← Instr.build t (parts.map fun (i, x) => (i, a.eval x)))) : Sem Next) := by unfold execOp; rw [ho]
  unfold evalBuildS at hq
  split at hq
  · rename_i ss hss
    split at hq
    · rename_i l hl
      have hvals := vals_to h hss
      have hlen := vals_length hss
      simp only [List.length_map] at hlen
      obtain ⟨z1, z2⟩ := zip_maps (parts.toList.map (·.1)) ss (by simp [hlen])
      have hpl : (parts.map fun (i, x) => (i, a.eval x)).toList = parts.toList.map fun p => (p.1, a.eval p.2) := by rw [Array.toList_map]
      have key : ∀ (place : Nat → Option (Nat × Nat)) (zc : List Value), fillS V.see place (zc.map .c) ((parts.toList.map (·.1)).zip ss) = some l → ∃ ys, SV.tos B l = some ys ∧ Instr.fill place zc.toArray (parts.map fun (i, x) => (i, a.eval x)).toList = some ys.toArray := by
        intro place zc hf
        refine fillS_ok hm.sat (fun _ _ e => h.see e) _ _ _ l zc ?_ ?_ (tos_conc B zc) hf
        · rw [z1, hvals, hpl]; simp [List.map_map, Function.comp_def]
        · rw [z2, hpl]; simp [List.map_map, Function.comp_def]
      have fin : ∀ ys, SV.tos B l = some ys → P.built t (parts.map fun (i, x) => (i, a.eval x)).toList = some ys.toArray → ∃ s, Qs s ∧ QuietRes P w0 bs H B a o s := by
        intro ys h1 h2
        exact ⟨_, hq, .of (mkAgg_to h1) fun w _ => by rw [hex]; exact run_v (run_build w t _ _ h2)⟩
      unfold builtS at hl
      split at hl
      · rename_i it n e hit hu
        split at hl
        · rename_i z ie hz hie
          obtain ⟨ys, k1, k2⟩ := key _ _ hl
          refine fin ys k1 ?_
          unfold Program.built
          rw [hit, hu]
          simp only [hz, hie]
          simpa using k2
        · cases hl
      · rename_i it fields hit hu
        split at hl
        · rename_i z places hz hpl'
          obtain ⟨ys, k1, k2⟩ := key _ _ hl
          refine fin ys k1 ?_
          unfold Program.built
          rw [hit, hu]
          simp only [hz, hpl']
          simpa using k2
        · cases hl
      · cases hl
    · exact hq.elim
  · exact hq.elim
theorem evalQ_ok (hS : TabOk P S) {V : View} {H : List Blk} {B : List Value} {a : Act} (h : Vw V H B a) {w1 : World} (hm : Mem w0 bs H B w1) {o : Oper} {Qs : SV → Prop} (hq : (evalQ P S V o).ok Qs) : ∃ s, Qs s ∧ QuietRes P w0 bs H B a o s := by
  have mv : ∀ x s, V.val x = some s → execOp a.eval o = pure (Next.value (a.eval x)) → QuietRes P w0 bs H B a o s := fun x s hx he => .of (h.val hx) fun w _ => by rw [he]; rfl
  unfold evalQ at hq
  split at hq
  · rename_i x ho
    obtain ⟨s, hs, hqs⟩ := leafO_ok hq
    exact ⟨s, hqs, mv x s hs (by unfold execOp; rw [ho])⟩
  · rename_i x ho
    obtain ⟨s, hs, hqs⟩ := leafO_ok hq
    exact ⟨s, hqs, mv x s hs (by unfold execOp; rw [ho])⟩
  · rename_i t x ho
    split at hq
    · rename_i hx
      have hv := h.val hx
      simp only [SV.to, Option.some.injEq] at hv
      exact ⟨_, hq, .of (x := .bool false) rfl fun w _ => by unfold execOp; rw [ho]; simp only [← hv]; rfl⟩
    · rename_i hx
      have hv := h.val hx
      simp only [SV.to, Option.some.injEq] at hv
      exact ⟨_, hq, .of (x := .bool true) rfl fun w _ => by unfold execOp; rw [ho]; simp only [← hv]; rfl⟩
    · exact evalPure_ok h hq
  · rename_i c x y ho
    split at hq
    · rename_i hc
      have hcv := h.val hc
      simp only [SV.to, Option.some.injEq] at hcv
      obtain ⟨s, hs, hqs⟩ := leafO_ok hq
      exact ⟨s, hqs, mv x s hs (by unfold execOp; rw [ho]; simp only [← hcv]; rfl)⟩
    · rename_i hc
      have hcv := h.val hc
      simp only [SV.to, Option.some.injEq] at hcv
      obtain ⟨s, hs, hqs⟩ := leafO_ok hq
      exact ⟨s, hqs, mv y s hs (by unfold execOp; rw [ho]; simp only [← hcv]; rfl)⟩
    · rename_i b hc
      have hcv := h.val hc
      simp only [SV.to, Option.some.injEq] at hcv
      cases b
      · obtain ⟨s, hs, hqs⟩ := leafO_ok (hq.2 rfl)
        exact ⟨s, hqs, mv y s hs (by unfold execOp; rw [ho]; simp only [← hcv]; rfl)⟩
      · obtain ⟨s, hs, hqs⟩ := leafO_ok (hq.1 rfl)
        exact ⟨s, hqs, mv x s hs (by unfold execOp; rw [ho]; simp only [← hcv]; rfl)⟩
    · exact hq.elim
  · rename_i t x ho; exact evalLoad_ok h hm ho hq
  · rename_i t x i ho; exact evalField_ok h hm ho hq
  · rename_i t x i ho; exact evalIndexAddr_ok h hm ho hq
  · rename_i x ho
    split at hq
    · rename_i k off hx
      have hv := h.val hx
      refine ⟨_, hq, .of hv fun w _ => ?_⟩
      simp only [SV.to] at hv
      split at hv
      · simp only [Option.some.injEq] at hv
        unfold execOp; rw [ho]; simp only [← hv]; rfl
      · cases hv
    · rename_i k sz i off hx
      have hv := h.val hx
      refine ⟨_, hq, .of hv fun w _ => ?_⟩
      simp only [SV.to] at hv
      split at hv
      · simp only [Option.some.injEq] at hv
        unfold execOp; rw [ho]; simp only [← hv]; rfl
      · cases hv
    · rename_i f aa bb hx
      have hv := h.val hx
      refine ⟨_, hq, .of hv fun w _ => ?_⟩
      simp only [SV.to] at hv
      split at hv
      · simp only [Option.some.injEq] at hv
        unfold execOp; rw [ho]; simp only [← hv]; rfl
      · cases hv
    · exact evalPure_ok h hq
  · rename_i t x i ho; exact evalIndex_ok h ho hq
  · rename_i t x lo hi ho; exact evalSlice_ok h ho hq
  · rename_i op t x y t2 ho; exact evalBin_ok h ho hq
  · rename_i x i ho
    split at hq
    · rename_i l hx
      obtain ⟨s, hs, hqs⟩ := leafO_ok hq
      have hv := h.val hx
      simp only [SV.to, Option.map_eq_some_iff] at hv
      obtain ⟨vs, h1, h2⟩ := hv
      obtain ⟨u, hu1, hu2⟩ := tos_get h1 hs
      refine ⟨s, hqs, .of hu2 fun w _ => ?_⟩
      unfold execOp; rw [ho]
      refine run_v ?_
      simp only [← h2]
      simp [Instr.extract, hu1]
    · exact evalPure_ok h hq
  · rename_i c ho; exact evalCall_ok hS h hm ho hq
  · rename_i t parts ho; exact evalBuildS_ok h hm ho hq
  · rename_i fn first captured ho
    have hex : ∀ w, (execOp a.eval o).run P w = .ok (.value (.func fn (first.map a.eval) (captured.map a.eval))) w := fun w => by unfold execOp; rw [ho]; rfl
    split at hq
    · rename_i av bv ha hb
      have h1 := vals_to h ha
      have h2 := vals_to h hb
      split at hq
      · rename_i xs ys hx hy
        rw [plains_to hx, Option.some.injEq] at h1
        rw [plains_to hy, Option.some.injEq] at h2
        refine ⟨_, hq, .of rfl fun w _ => ?_⟩
        rw [hex, map_toArray, map_toArray, ← h1, ← h2]
      · refine ⟨_, hq, .of (x := .func fn (first.map a.eval) (captured.map a.eval)) ?_ fun w _ => hex w⟩
        simp only [SV.to, h1, h2, map_toArray]
    · exact hq.elim
  · rename_i t x ho
    split at hq
    · rename_i s hx
      have hv := h.val hx
      split at hq
      · exact evalPure_ok h hq
      · split at hq
        · exact hq.elim
        · rename_i d hne hu
          refine ⟨_, hq, .of (x := .iface t (a.eval x)) (by simp [SV.to, hv]) fun w _ => ?_⟩
          unfold execOp; rw [ho]
          refine run_v ?_
          unfold Instr.makeInterface
          rw [run_bind_ok (run_underlying hu w)]
          cases d <;> first | rfl | exact absurd rfl (hne _)
        · exact hq.elim
    · exact hq.elim
  · rename_i x xt u ok ho
    split at hq
    · rename_i t s hx
      have hv := h.val hx
      simp only [SV.to, Option.map_eq_some_iff] at hv
      obtain ⟨v, hs, hv⟩ := hv
      have hex : execOp a.eval o = (do pure (Next.value (← Instr.typeAssert (a.eval x) xt u ok)) : Sem Next) := by unfold execOp; rw [ho]
      split at hq
      · exact hq.elim
      · rename_i d hne hu
        have hta : ∀ w, (Instr.typeAssert (a.eval x) xt u ok).run P w = ((if t = u then (pure (if ok then .tuple #[v, .bool true] else v) : Sem Value) else (if ok then do pure (.tuple #[← zeroValue u, .bool false]) else runtimePanic (.typeAssertion (some xt) (some t) u ""))) : Sem Value).run P w := by
          intro w
          rw [← hv]
          unfold Instr.typeAssert
          rw [run_bind_ok (run_underlying hu w)]
          cases d <;> first | rfl | exact absurd rfl (hne _)
        cases hb : Nat.beq t u
        · rw [hb, cond_false] at hq
          have htu : t ≠ u := fun e => by rw [e, Nat.beq_refl] at hb; cases hb
          cases ok
          · exact hq.elim
          · rw [cond_true] at hq
            split at hq
            · rename_i z hz
              refine ⟨_, hq, .of (x := .tuple #[z, .bool false]) rfl fun w _ => ?_⟩
              rw [hex]
              refine run_v ?_
              rw [hta, if_neg htu, if_pos rfl, run_bind_pure hz]
              rfl
            · exact hq.elim
        · rw [hb, cond_true] at hq
          obtain rfl := Nat.eq_of_beq_eq_true hb
          cases ok
          · refine ⟨_, hq, .of hs fun w _ => ?_⟩
            rw [hex]
            refine run_v ?_
            rw [hta, if_pos rfl]; rfl
          · refine ⟨_, hq, .of (x := .tuple #[v, .bool true]) (by simp [SV.to, SV.tos, hs]) fun w _ => ?_⟩
            rw [hex]
            refine run_v ?_
            rw [hta, if_pos rfl]; rfl
      · exact hq.elim
    · exact evalPure_ok h hq
  · exact evalPure_ok h hq
end
end Go.Proofs.Ytapogkodlempkaa.Sym

/- Cookies: the laws. No conditions. -/
import Derived.Test.YtapogkodlempkaaCookF
namespace Go.Proofs.Ytapogkodlempkaa
set_option linter.unusedVariables false
set_option linter.unusedSimpArgs false
open Go.RowKit Sym Sha Go.ChangeShapes Go.WideShapes Go.ChangeMaps

theorem works16 (w : World) : Calls Try.prog 47 #[] w fun e w' => e = .returned (.bool true) ∧ Below w.heap.size w w' := by
  refine calls_runV (onlyS_ok SCook3_ok) follows Try.func47 (by kernel_rfl) (by kernel_rfl) (noloops (by kernel_rfl)) works16_run ?_ w
  have hz : (sealS (ba [107]) 1 2 ⟨5, 6, 7, 8, ba []⟩).size ≤ 1000000 := by
    unfold sealS
    split
    · rw [ByteArray.size_append, noteB_size, markB_size]; decide
    · decide
  refine ⟨by decide, ⟨by decide, hz⟩, ⟨by decide, hz⟩, fun _ => ⟨fun _ => ⟨fun _ => ⟨fun _ => rfl, (fun h => by cases h)⟩, (fun h => by cases h)⟩, (fun h => by cases h)⟩, (fun h => by cases h)⟩
def SCook4 (P : Program) (fOurs fFresh : Func) : Tab := addS 47 tTrue (SCook3 P fOurs fFresh)
theorem SCook4_ok : TabOk Try.prog (SCook4 Try.prog Try.f49 Try.f53) := addS_ok SCook3_ok (by kernel_rfl) (by (intro xs p v h hp w; unfold tTrue at h; (split at h) <;> first | (cases h; done) | (simp only [Option.some.injEq, Prod.mk.injEq] at h; obtain ⟨rfl, rfl⟩ := h; exact works16 w)))
set_option maxRecDepth 100000 in
theorem cookSeals_run (k : ByteArray) (f t a b c d : Int) (x : ByteArray) : runV Try.prog (onlyS Try.prog (SCook4 Try.prog Try.f49 Try.f53)) noL Try.f10 [.string k, .agg #[.int .i64 f, .int .i64 t], .agg #[.int .i64 a, .int .i64 b, .int .i64 c, .int .i64 d, .string x]] = T.ite false (T.leaf (Value.bool false)) (T.ite (decide ((↑k.size : Int) > (200 : Int))) (T.leaf (Value.bool true)) (T.ite (decide ((↑x.size : Int) > (200 : Int))) (T.leaf (Value.bool true)) (T.need (k.size ≤ (1000000000000 : Nat)) (T.need (k.size ≤ (1000000000000 : Nat)) (T.need (k.size ≤ (1000000000000 : Nat) ∧ (sealS k f t (Nt.mk a b c d x)).size ≤ (1000000 : Nat)) (T.ite (decide (sealS k f t (Nt.mk a b c d x) = sealS k f t (Nt.mk a b c d x))) (T.ite (decide (sealE (Nt.mk a b c d x) = sealE (Nt.mk a b c d x))) (T.ite (!decide (sealE (Nt.mk a b c d x) = (0 : Int))) (T.leaf (Value.bool true)) (T.ite (decide (openE k f t (sealS k f t (Nt.mk a b c d x)) = (0 : Int))) (T.leaf (Value.bool (decide ((openN k f t (sealS k f t (Nt.mk a b c d x))).a = a) && (decide ((openN k f t (sealS k f t (Nt.mk a b c d x))).b = b) && (decide ((openN k f t (sealS k f t (Nt.mk a b c d x))).c = c) && (decide ((openN k f t (sealS k f t (Nt.mk a b c d x))).d = d) && (decide ((openN k f t (sealS k f t (Nt.mk a b c d x))).x = x) && true))))))) (T.leaf (Value.bool false)))) (T.leaf (Value.bool false))) (T.leaf (Value.bool false)))))))) := by kernel_rfl
set_option maxRecDepth 100000 in
theorem cookOpens_run (k : ByteArray) (f t : Int) (s : ByteArray) : runV Try.prog (onlyS Try.prog (SCook4 Try.prog Try.f49 Try.f53)) noL Try.f11 [.string k, .agg #[.int .i64 f, .int .i64 t], .string s] = T.ite false (T.leaf (Value.bool false)) (T.ite (decide ((↑k.size : Int) > (200 : Int))) (T.leaf (Value.bool true)) (T.ite (decide ((↑s.size : Int) > (300 : Int))) (T.leaf (Value.bool true)) (T.need (k.size ≤ (1000000000000 : Nat) ∧ s.size ≤ (1000000 : Nat)) (T.need (k.size ≤ (1000000000000 : Nat) ∧ s.size ≤ (1000000 : Nat)) (T.need (k.size ≤ (1000000000000 : Nat)) (T.ite (decide ((openN k f t s).a = (openN k f t s).a) && (decide ((openN k f t s).b = (openN k f t s).b) && (decide ((openN k f t s).c = (openN k f t s).c) && (decide ((openN k f t s).d = (openN k f t s).d) && (decide ((openN k f t s).x = (openN k f t s).x) && true))))) (T.ite (decide (openE k f t s = openE k f t s)) (T.ite (!decide (openE k f t s = (0 : Int))) (T.leaf (Value.bool true)) (T.ite (decide (sealS k f t (openN k f t s) = s)) (T.leaf (Value.bool (decide (sealE (openN k f t s) = (0 : Int))))) (T.leaf (Value.bool false)))) (T.leaf (Value.bool false))) (T.leaf (Value.bool false)))))))) := by kernel_rfl
set_option maxRecDepth 100000 in
theorem cookFresh_run (a b c d : Int) (x : ByteArray) (now later : Int) : runV Try.prog (onlyS Try.prog (SCook4 Try.prog Try.f49 Try.f53)) noL Try.f12 [.agg #[.int .i64 a, .int .i64 b, .int .i64 c, .int .i64 d, .string x], .int .i64 now, .int .u16 later] = T.ite false (T.leaf (Value.bool false)) (T.ite (decide (d ≥ (0 : Int))) (T.ite (decide (d ≤ now)) (T.ite (decide (d ≥ (0 : Int))) (T.ite (decide (d ≤ now)) (T.ite (!decide (decide (IntKind.i64.wrap (now - d) ≤ (256 : Int)) = decide (IntKind.i64.wrap (now - d) ≤ (256 : Int)))) (T.leaf (Value.bool (decide (decide (IntKind.i64.wrap (now - d) ≤ (256 : Int)) = decide (IntKind.i64.wrap (now - d) ≤ (256 : Int)))))) (T.ite (!decide (IntKind.i64.wrap (now - d) ≤ (256 : Int))) (T.leaf (Value.bool (decide (decide (IntKind.i64.wrap (now - d) ≤ (256 : Int)) = decide (IntKind.i64.wrap (now - d) ≤ (256 : Int)))))) (T.ite (decide (now > (1099511627776 : Int))) (T.leaf (Value.bool (decide (decide (IntKind.i64.wrap (now - d) ≤ (256 : Int)) = decide (IntKind.i64.wrap (now - d) ≤ (256 : Int)))))) (T.ite (decide (d ≥ (0 : Int))) (T.ite (decide (d ≤ IntKind.i64.wrap (now + IntKind.i64.wrap later))) (T.leaf (Value.bool (decide (decide (IntKind.i64.wrap (IntKind.i64.wrap (now + IntKind.i64.wrap later) - d) ≤ (256 : Int)) = decide (IntKind.i64.wrap (IntKind.i64.wrap (now - d) + IntKind.i64.wrap later) ≤ (256 : Int)))))) (T.leaf (Value.bool (decide (false = decide (IntKind.i64.wrap (IntKind.i64.wrap (now - d) + IntKind.i64.wrap later) ≤ (256 : Int))))))) (T.leaf (Value.bool (decide (false = decide (IntKind.i64.wrap (IntKind.i64.wrap (now - d) + IntKind.i64.wrap later) ≤ (256 : Int)))))))))) (T.ite (!decide (decide (IntKind.i64.wrap (now - d) ≤ (256 : Int)) = false)) (T.leaf (Value.bool (decide (decide (IntKind.i64.wrap (now - d) ≤ (256 : Int)) = false)))) (T.ite (!decide (IntKind.i64.wrap (now - d) ≤ (256 : Int))) (T.leaf (Value.bool (decide (decide (IntKind.i64.wrap (now - d) ≤ (256 : Int)) = false)))) (T.ite (decide (now > (1099511627776 : Int))) (T.leaf (Value.bool (decide (decide (IntKind.i64.wrap (now - d) ≤ (256 : Int)) = false)))) (T.ite (decide (d ≥ (0 : Int))) (T.ite (decide (d ≤ IntKind.i64.wrap (now + IntKind.i64.wrap later))) (T.leaf (Value.bool (decide (decide (IntKind.i64.wrap (IntKind.i64.wrap (now + IntKind.i64.wrap later) - d) ≤ (256 : Int)) = decide (IntKind.i64.wrap (IntKind.i64.wrap (now - d) + IntKind.i64.wrap later) ≤ (256 : Int)))))) (T.leaf (Value.bool (decide (false = decide (IntKind.i64.wrap (IntKind.i64.wrap (now - d) + IntKind.i64.wrap later) ≤ (256 : Int))))))) (T.leaf (Value.bool (decide (false = decide (IntKind.i64.wrap (IntKind.i64.wrap (now - d) + IntKind.i64.wrap later) ≤ (256 : Int))))))))))) (T.ite (!decide (decide (IntKind.i64.wrap (now - d) ≤ (256 : Int)) = false)) (T.leaf (Value.bool (decide (decide (IntKind.i64.wrap (now - d) ≤ (256 : Int)) = false)))) (T.ite (!decide (IntKind.i64.wrap (now - d) ≤ (256 : Int))) (T.leaf (Value.bool (decide (decide (IntKind.i64.wrap (now - d) ≤ (256 : Int)) = false)))) (T.ite (decide (now > (1099511627776 : Int))) (T.leaf (Value.bool (decide (decide (IntKind.i64.wrap (now - d) ≤ (256 : Int)) = false)))) (T.ite (decide (d ≥ (0 : Int))) (T.ite (decide (d ≤ IntKind.i64.wrap (now + IntKind.i64.wrap later))) (T.leaf (Value.bool (decide (decide (IntKind.i64.wrap (IntKind.i64.wrap (now + IntKind.i64.wrap later) - d) ≤ (256 : Int)) = decide (IntKind.i64.wrap (IntKind.i64.wrap (now - d) + IntKind.i64.wrap later) ≤ (256 : Int)))))) (T.leaf (Value.bool (decide (false = decide (IntKind.i64.wrap (IntKind.i64.wrap (now - d) + IntKind.i64.wrap later) ≤ (256 : Int))))))) (T.leaf (Value.bool (decide (false = decide (IntKind.i64.wrap (IntKind.i64.wrap (now - d) + IntKind.i64.wrap later) ≤ (256 : Int))))))))))) (T.ite (decide (d ≥ (0 : Int))) (T.ite (decide (d ≤ now)) (T.ite (!decide (false = decide (IntKind.i64.wrap (now - d) ≤ (256 : Int)))) (T.leaf (Value.bool (decide (false = decide (IntKind.i64.wrap (now - d) ≤ (256 : Int)))))) (T.ite true (T.leaf (Value.bool (decide (false = decide (IntKind.i64.wrap (now - d) ≤ (256 : Int)))))) (T.ite (decide (now > (1099511627776 : Int))) (T.leaf (Value.bool (decide (false = decide (IntKind.i64.wrap (now - d) ≤ (256 : Int)))))) (T.ite (decide (d ≥ (0 : Int))) (T.ite (decide (d ≤ IntKind.i64.wrap (now + IntKind.i64.wrap later))) (T.leaf (Value.bool (decide (decide (IntKind.i64.wrap (IntKind.i64.wrap (now + IntKind.i64.wrap later) - d) ≤ (256 : Int)) = decide (IntKind.i64.wrap (IntKind.i64.wrap (now - d) + IntKind.i64.wrap later) ≤ (256 : Int)))))) (T.leaf (Value.bool (decide (false = decide (IntKind.i64.wrap (IntKind.i64.wrap (now - d) + IntKind.i64.wrap later) ≤ (256 : Int))))))) (T.leaf (Value.bool (decide (false = decide (IntKind.i64.wrap (IntKind.i64.wrap (now - d) + IntKind.i64.wrap later) ≤ (256 : Int)))))))))) (T.ite false (T.leaf (Value.bool true)) (T.ite true (T.leaf (Value.bool true)) (T.ite (decide (now > (1099511627776 : Int))) (T.leaf (Value.bool true)) (T.ite (decide (d ≥ (0 : Int))) (T.ite (decide (d ≤ IntKind.i64.wrap (now + IntKind.i64.wrap later))) (T.leaf (Value.bool (decide (decide (IntKind.i64.wrap (IntKind.i64.wrap (now + IntKind.i64.wrap later) - d) ≤ (256 : Int)) = decide (IntKind.i64.wrap (IntKind.i64.wrap (now - d) + IntKind.i64.wrap later) ≤ (256 : Int)))))) (T.leaf (Value.bool (decide (false = decide (IntKind.i64.wrap (IntKind.i64.wrap (now - d) + IntKind.i64.wrap later) ≤ (256 : Int))))))) (T.leaf (Value.bool (decide (false = decide (IntKind.i64.wrap (IntKind.i64.wrap (now - d) + IntKind.i64.wrap later) ≤ (256 : Int))))))))))) (T.ite false (T.leaf (Value.bool true)) (T.ite true (T.leaf (Value.bool true)) (T.ite (decide (now > (1099511627776 : Int))) (T.leaf (Value.bool true)) (T.ite (decide (d ≥ (0 : Int))) (T.ite (decide (d ≤ IntKind.i64.wrap (now + IntKind.i64.wrap later))) (T.leaf (Value.bool (decide (decide (IntKind.i64.wrap (IntKind.i64.wrap (now + IntKind.i64.wrap later) - d) ≤ (256 : Int)) = decide (IntKind.i64.wrap (IntKind.i64.wrap (now - d) + IntKind.i64.wrap later) ≤ (256 : Int)))))) (T.leaf (Value.bool (decide (false = decide (IntKind.i64.wrap (IntKind.i64.wrap (now - d) + IntKind.i64.wrap later) ≤ (256 : Int))))))) (T.leaf (Value.bool (decide (false = decide (IntKind.i64.wrap (IntKind.i64.wrap (now - d) + IntKind.i64.wrap later) ≤ (256 : Int)))))))))))) (T.ite (decide (d ≥ (0 : Int))) (T.ite (decide (d ≤ now)) (T.ite (!decide (false = decide (IntKind.i64.wrap (now - d) ≤ (256 : Int)))) (T.leaf (Value.bool (decide (false = decide (IntKind.i64.wrap (now - d) ≤ (256 : Int)))))) (T.ite true (T.leaf (Value.bool (decide (false = decide (IntKind.i64.wrap (now - d) ≤ (256 : Int)))))) (T.ite (decide (now > (1099511627776 : Int))) (T.leaf (Value.bool (decide (false = decide (IntKind.i64.wrap (now - d) ≤ (256 : Int)))))) (T.ite (decide (d ≥ (0 : Int))) (T.ite (decide (d ≤ IntKind.i64.wrap (now + IntKind.i64.wrap later))) (T.leaf (Value.bool (decide (decide (IntKind.i64.wrap (IntKind.i64.wrap (now + IntKind.i64.wrap later) - d) ≤ (256 : Int)) = decide (IntKind.i64.wrap (IntKind.i64.wrap (now - d) + IntKind.i64.wrap later) ≤ (256 : Int)))))) (T.leaf (Value.bool (decide (false = decide (IntKind.i64.wrap (IntKind.i64.wrap (now - d) + IntKind.i64.wrap later) ≤ (256 : Int))))))) (T.leaf (Value.bool (decide (false = decide (IntKind.i64.wrap (IntKind.i64.wrap (now - d) + IntKind.i64.wrap later) ≤ (256 : Int)))))))))) (T.ite false (T.leaf (Value.bool true)) (T.ite true (T.leaf (Value.bool true)) (T.ite (decide (now > (1099511627776 : Int))) (T.leaf (Value.bool true)) (T.ite (decide (d ≥ (0 : Int))) (T.ite (decide (d ≤ IntKind.i64.wrap (now + IntKind.i64.wrap later))) (T.leaf (Value.bool (decide (decide (IntKind.i64.wrap (IntKind.i64.wrap (now + IntKind.i64.wrap later) - d) ≤ (256 : Int)) = decide (IntKind.i64.wrap (IntKind.i64.wrap (now - d) + IntKind.i64.wrap later) ≤ (256 : Int)))))) (T.leaf (Value.bool (decide (false = decide (IntKind.i64.wrap (IntKind.i64.wrap (now - d) + IntKind.i64.wrap later) ≤ (256 : Int))))))) (T.leaf (Value.bool (decide (false = decide (IntKind.i64.wrap (IntKind.i64.wrap (now - d) + IntKind.i64.wrap later) ≤ (256 : Int))))))))))) (T.ite false (T.leaf (Value.bool true)) (T.ite true (T.leaf (Value.bool true)) (T.ite (decide (now > (1099511627776 : Int))) (T.leaf (Value.bool true)) (T.ite (decide (d ≥ (0 : Int))) (T.ite (decide (d ≤ IntKind.i64.wrap (now + IntKind.i64.wrap later))) (T.leaf (Value.bool (decide (decide (IntKind.i64.wrap (IntKind.i64.wrap (now + IntKind.i64.wrap later) - d) ≤ (256 : Int)) = decide (IntKind.i64.wrap (IntKind.i64.wrap (now - d) + IntKind.i64.wrap later) ≤ (256 : Int)))))) (T.leaf (Value.bool (decide (false = decide (IntKind.i64.wrap (IntKind.i64.wrap (now - d) + IntKind.i64.wrap later) ≤ (256 : Int))))))) (T.leaf (Value.bool (decide (false = decide (IntKind.i64.wrap (IntKind.i64.wrap (now - d) + IntKind.i64.wrap later) ≤ (256 : Int)))))))))))) := by kernel_rfl
theorem cookSeals_any (k : ByteArray) (f t a b c d : Int) (x : ByteArray) (w : World) : Calls Try.prog 10 #[.string k, .agg #[.int .i64 f, .int .i64 t], .agg #[.int .i64 a, .int .i64 b, .int .i64 c, .int .i64 d, .string x]] w fun e w' => e = .returned (.bool true) ∧ Below w.heap.size w w' := by
  refine calls_runV (onlyS_ok SCook4_ok) follows Try.func10 (by kernel_rfl) (by kernel_rfl) (noloops (by kernel_rfl)) (cookSeals_run k f t a b c d x) ?_ w
  by_cases hk : (k.size : Int) > 200
  · simp [T.ok, hk]
  by_cases hx : (x.size : Int) > 200
  · simp [T.ok, hk, hx]
  have m1 : k.size ≤ 1000000000000 := by omega
  have key := opens k f t ⟨a, b, c, d, x⟩
  have hz : (sealS k f t ⟨a, b, c, d, x⟩).size ≤ 1000000 := by
    unfold sealS
    split
    · rw [ByteArray.size_append, noteB_size, markB_size]; show 22 + x.size + 16 ≤ _; omega
    · show 0 ≤ _; omega
  generalize sealS k f t ⟨a, b, c, d, x⟩ = s at key hz ⊢
  generalize sealE ⟨a, b, c, d, x⟩ = e at key ⊢
  generalize openE k f t s = g at key ⊢
  generalize openN k f t s = m at key ⊢
  by_cases he : e = 0
  · obtain ⟨k1, k2⟩ := key he
    subst k2
    simp [T.ok, hk, hx, m1, hz, he, k1]
  · simp [T.ok, hk, hx, m1, hz, he]
theorem cookOpens_any (k : ByteArray) (f t : Int) (s : ByteArray) (w : World) : Calls Try.prog 11 #[.string k, .agg #[.int .i64 f, .int .i64 t], .string s] w fun e w' => e = .returned (.bool true) ∧ Below w.heap.size w w' := by
  refine calls_runV (onlyS_ok SCook4_ok) follows Try.func11 (by kernel_rfl) (by kernel_rfl) (noloops (by kernel_rfl)) (cookOpens_run k f t s) ?_ w
  by_cases hk : (k.size : Int) > 200
  · simp [T.ok, hk]
  by_cases hx : (s.size : Int) > 300
  · simp [T.ok, hk, hx]
  have m1 : k.size ≤ 1000000000000 := by omega
  have m2 : s.size ≤ 1000000 := by omega
  have key := seals k f t s
  generalize openE k f t s = e at key ⊢
  generalize sealS k f t (openN k f t s) = s' at key ⊢
  generalize sealE (openN k f t s) = g at key ⊢
  generalize openN k f t s = m at key ⊢
  by_cases he : e = 0
  · obtain ⟨k1, k2⟩ := key he
    simp [T.ok, hk, hx, m1, m2, he, k1, k2]
  · simp [T.ok, hk, hx, m1, m2, he]
theorem cookFresh_any (a b c d : Int) (x : ByteArray) (now later : Int) (hd : -9223372036854775808 ≤ d ∧ d ≤ 9223372036854775807) (hn : -9223372036854775808 ≤ now ∧ now ≤ 9223372036854775807) (hl : 0 ≤ later ∧ later ≤ 65535) (w : World) :
    Calls Try.prog 12 #[.agg #[.int .i64 a, .int .i64 b, .int .i64 c, .int .i64 d, .string x], .int .i64 now, .int .u16 later] w fun e w' => e = .returned (.bool true) ∧ Below w.heap.size w w' := by
  refine calls_runV (onlyS_ok SCook4_ok) follows Try.func12 (by kernel_rfl) (by kernel_rfl) (noloops (by kernel_rfl)) (cookFresh_run a b c d x now later) ?_ w
  by_cases h0 : d ≥ 0
  · by_cases h1 : d ≤ now
    · have e1 : IntKind.i64.wrap (now - d) = now - d := w64 _ (by omega) (by omega)
      by_cases h2 : now - d ≤ 256
      · by_cases h3 : now > 1099511627776
        · simp [T.ok, h0, h1, e1, h2, h3]
        · have e2 : IntKind.i64.wrap later = later := w64 _ (by omega) (by omega)
          have e3 : IntKind.i64.wrap (now + later) = now + later := w64 _ (by omega) (by omega)
          have e4 : IntKind.i64.wrap (now + later - d) = now - d + later := by rw [w64 _ (by omega) (by omega)]; omega
          have e5 : IntKind.i64.wrap (now - d + later) = now - d + later := w64 _ (by omega) (by omega)
          have h4 : d ≤ now + later := by omega
          simp [T.ok, h0, h1, e1, h2, h3, e2, e3, e4, e5, h4]
      · simp [T.ok, h0, h1, e1, h2]
    · simp [T.ok, h0, h1]
  · simp [T.ok, h0]
set_option maxRecDepth 100000 in
theorem cookieSeals_walk {H : Type} {enc : TypeId × Value → H} {base : Nat} {v0 v1 v2 : Value} {d0 d1 d2 : DataW H} {p0 p1 p2 : List MemPlace} {W : World} (hv0 : Value.okWide Try.prog W .any base 9 v0)
    (h0 : DataW.Trod enc Try.prog W 0 (fun _ => true) true 9 v0 d0 p0) (hv1 : Value.okWide Try.prog W .any base 44 v1) (h1 : DataW.Trod enc Try.prog W 0 (fun _ => true) true 44 v1 d1 p1)
    (hv2 : Value.okWide Try.prog W .any base 63 v2) (h2 : DataW.Trod enc Try.prog W 0 (fun _ => true) true 63 v2 d2 p2) :
    Calls Try.prog 10 #[v0, v1, v2] W fun e w' => e = .returned (.bool true) ∧ Below W.heap.size W w' := by
  obtain ⟨key, rfl, rfl, rfl, wk⟩ := open_string Try.underlying9 hv0 h0
  obtain ⟨cs, rfl, hsz⟩ := okWide_struct Try.underlying44 hv1
  rw [show Try.prog.cellsOf 44 = 2 from by kernel_rfl] at hsz
  obtain ⟨l⟩ := cs
  obtain ⟨f_c, t_c, rfl⟩ := list2 l (by simpa using hsz)
  obtain ⟨fuel, hf⟩ := h1
  obtain ⟨xs, n, _, _, _, hlen, hg⟩ := DataW.trod_struct Try.underlying44 hf
  obtain ⟨y, hy⟩ : ∃ y, xs[0]? = some y := ⟨_, List.getElem?_eq_getElem (by rw [hlen]; decide)⟩
  rw [← hg 0 _ rfl] at hy
  simp [Value.cells, show Try.prog.cellsOf 3 = 1 from by kernel_rfl] at hy
  obtain ⟨f, e, _, w_f⟩ := DataW.trod_int Try.underlying3 hy
  simp at e
  subst e
  clear hy
  obtain ⟨y, hy⟩ : ∃ y, xs[1]? = some y := ⟨_, List.getElem?_eq_getElem (by rw [hlen]; decide)⟩
  rw [← hg 1 _ rfl] at hy
  simp [Value.cells, show Try.prog.cellsOf 3 = 1 from by kernel_rfl] at hy
  obtain ⟨t, e, _, w_t⟩ := DataW.trod_int Try.underlying3 hy
  simp at e
  subst e
  clear hy
  clear hg hlen hf hsz
  obtain ⟨cs, rfl, hsz⟩ := okWide_struct Try.underlying63 hv2
  rw [show Try.prog.cellsOf 63 = 5 from by kernel_rfl] at hsz
  obtain ⟨l⟩ := cs
  obtain ⟨a_c, b_c, c_c, d_c, x_c, rfl⟩ := list5 l (by simpa using hsz)
  obtain ⟨fuel, hf⟩ := h2
  obtain ⟨xs, n, _, _, _, hlen, hg⟩ := DataW.trod_struct Try.underlying63 hf
  obtain ⟨y, hy⟩ : ∃ y, xs[0]? = some y := ⟨_, List.getElem?_eq_getElem (by rw [hlen]; decide)⟩
  rw [← hg 0 _ rfl] at hy
  simp [Value.cells, show Try.prog.cellsOf 3 = 1 from by kernel_rfl] at hy
  obtain ⟨a, e, _, w_a⟩ := DataW.trod_int Try.underlying3 hy
  simp at e
  subst e
  clear hy
  obtain ⟨y, hy⟩ : ∃ y, xs[1]? = some y := ⟨_, List.getElem?_eq_getElem (by rw [hlen]; decide)⟩
  rw [← hg 1 _ rfl] at hy
  simp [Value.cells, show Try.prog.cellsOf 3 = 1 from by kernel_rfl] at hy
  obtain ⟨b, e, _, w_b⟩ := DataW.trod_int Try.underlying3 hy
  simp at e
  subst e
  clear hy
  obtain ⟨y, hy⟩ : ∃ y, xs[2]? = some y := ⟨_, List.getElem?_eq_getElem (by rw [hlen]; decide)⟩
  rw [← hg 2 _ rfl] at hy
  simp [Value.cells, show Try.prog.cellsOf 3 = 1 from by kernel_rfl] at hy
  obtain ⟨c, e, _, w_c⟩ := DataW.trod_int Try.underlying3 hy
  simp at e
  subst e
  clear hy
  obtain ⟨y, hy⟩ : ∃ y, xs[3]? = some y := ⟨_, List.getElem?_eq_getElem (by rw [hlen]; decide)⟩
  rw [← hg 3 _ rfl] at hy
  simp [Value.cells, show Try.prog.cellsOf 3 = 1 from by kernel_rfl] at hy
  obtain ⟨d, e, _, w_d⟩ := DataW.trod_int Try.underlying3 hy
  simp at e
  subst e
  clear hy
  obtain ⟨y, hy⟩ : ∃ y, xs[4]? = some y := ⟨_, List.getElem?_eq_getElem (by rw [hlen]; decide)⟩
  rw [← hg 4 _ rfl] at hy
  simp [Value.cells, show Try.prog.cellsOf 9 = 1 from by kernel_rfl] at hy
  obtain ⟨x, e, _, w_x⟩ := DataW.trod_string Try.underlying9 hy
  simp at e
  subst e
  clear hy
  clear hg hlen hf hsz
  exact cookSeals_any key f t a b c d x W
set_option maxRecDepth 100000 in
theorem cookieOpens_walk {H : Type} {enc : TypeId × Value → H} {base : Nat} {v0 v1 v2 : Value} {d0 d1 d2 : DataW H} {p0 p1 p2 : List MemPlace} {W : World} (hv0 : Value.okWide Try.prog W .any base 9 v0)
    (h0 : DataW.Trod enc Try.prog W 0 (fun _ => true) true 9 v0 d0 p0) (hv1 : Value.okWide Try.prog W .any base 44 v1) (h1 : DataW.Trod enc Try.prog W 0 (fun _ => true) true 44 v1 d1 p1)
    (hv2 : Value.okWide Try.prog W .any base 9 v2) (h2 : DataW.Trod enc Try.prog W 0 (fun _ => true) true 9 v2 d2 p2) :
    Calls Try.prog 11 #[v0, v1, v2] W fun e w' => e = .returned (.bool true) ∧ Below W.heap.size W w' := by
  obtain ⟨key, rfl, rfl, rfl, wk⟩ := open_string Try.underlying9 hv0 h0
  obtain ⟨s, rfl, rfl, rfl, ws⟩ := open_string Try.underlying9 hv2 h2
  obtain ⟨cs, rfl, hsz⟩ := okWide_struct Try.underlying44 hv1
  rw [show Try.prog.cellsOf 44 = 2 from by kernel_rfl] at hsz
  obtain ⟨l⟩ := cs
  obtain ⟨f_c, t_c, rfl⟩ := list2 l (by simpa using hsz)
  obtain ⟨fuel, hf⟩ := h1
  obtain ⟨xs, n, _, _, _, hlen, hg⟩ := DataW.trod_struct Try.underlying44 hf
  obtain ⟨y, hy⟩ : ∃ y, xs[0]? = some y := ⟨_, List.getElem?_eq_getElem (by rw [hlen]; decide)⟩
  rw [← hg 0 _ rfl] at hy
  simp [Value.cells, show Try.prog.cellsOf 3 = 1 from by kernel_rfl] at hy
  obtain ⟨f, e, _, w_f⟩ := DataW.trod_int Try.underlying3 hy
  simp at e
  subst e
  clear hy
  obtain ⟨y, hy⟩ : ∃ y, xs[1]? = some y := ⟨_, List.getElem?_eq_getElem (by rw [hlen]; decide)⟩
  rw [← hg 1 _ rfl] at hy
  simp [Value.cells, show Try.prog.cellsOf 3 = 1 from by kernel_rfl] at hy
  obtain ⟨t, e, _, w_t⟩ := DataW.trod_int Try.underlying3 hy
  simp at e
  subst e
  clear hy
  clear hg hlen hf hsz
  exact cookOpens_any key f t s W
set_option maxRecDepth 100000 in
theorem cookieFresh_walk {H : Type} {enc : TypeId × Value → H} {base : Nat} {v0 v1 v2 : Value} {d0 d1 d2 : DataW H} {p0 p1 p2 : List MemPlace} {W : World} (hv0 : Value.okWide Try.prog W .any base 63 v0)
    (h0 : DataW.Trod enc Try.prog W 0 (fun _ => true) true 63 v0 d0 p0) (hv1 : Value.okWide Try.prog W .any base 3 v1) (h1 : DataW.Trod enc Try.prog W 0 (fun _ => true) true 3 v1 d1 p1)
    (hv2 : Value.okWide Try.prog W .any base 75 v2) (h2 : DataW.Trod enc Try.prog W 0 (fun _ => true) true 75 v2 d2 p2) :
    Calls Try.prog 12 #[v0, v1, v2] W fun e w' => e = .returned (.bool true) ∧ Below W.heap.size W w' := by
  obtain ⟨now, rfl, rfl, rfl, wn⟩ := open_int Try.underlying3 hv1 h1
  obtain ⟨later, rfl, rfl, rfl, wl⟩ := open_int Try.underlying75 hv2 h2
  obtain ⟨cs, rfl, hsz⟩ := okWide_struct Try.underlying63 hv0
  rw [show Try.prog.cellsOf 63 = 5 from by kernel_rfl] at hsz
  obtain ⟨l⟩ := cs
  obtain ⟨a_c, b_c, c_c, d_c, x_c, rfl⟩ := list5 l (by simpa using hsz)
  obtain ⟨fuel, hf⟩ := h0
  obtain ⟨xs, n, _, _, _, hlen, hg⟩ := DataW.trod_struct Try.underlying63 hf
  obtain ⟨y, hy⟩ : ∃ y, xs[0]? = some y := ⟨_, List.getElem?_eq_getElem (by rw [hlen]; decide)⟩
  rw [← hg 0 _ rfl] at hy
  simp [Value.cells, show Try.prog.cellsOf 3 = 1 from by kernel_rfl] at hy
  obtain ⟨a, e, _, w_a⟩ := DataW.trod_int Try.underlying3 hy
  simp at e
  subst e
  clear hy
  obtain ⟨y, hy⟩ : ∃ y, xs[1]? = some y := ⟨_, List.getElem?_eq_getElem (by rw [hlen]; decide)⟩
  rw [← hg 1 _ rfl] at hy
  simp [Value.cells, show Try.prog.cellsOf 3 = 1 from by kernel_rfl] at hy
  obtain ⟨b, e, _, w_b⟩ := DataW.trod_int Try.underlying3 hy
  simp at e
  subst e
  clear hy
  obtain ⟨y, hy⟩ : ∃ y, xs[2]? = some y := ⟨_, List.getElem?_eq_getElem (by rw [hlen]; decide)⟩
  rw [← hg 2 _ rfl] at hy
  simp [Value.cells, show Try.prog.cellsOf 3 = 1 from by kernel_rfl] at hy
  obtain ⟨c, e, _, w_c⟩ := DataW.trod_int Try.underlying3 hy
  simp at e
  subst e
  clear hy
  obtain ⟨y, hy⟩ : ∃ y, xs[3]? = some y := ⟨_, List.getElem?_eq_getElem (by rw [hlen]; decide)⟩
  rw [← hg 3 _ rfl] at hy
  simp [Value.cells, show Try.prog.cellsOf 3 = 1 from by kernel_rfl] at hy
  obtain ⟨d, e, _, w_d⟩ := DataW.trod_int Try.underlying3 hy
  simp at e
  subst e
  clear hy
  obtain ⟨y, hy⟩ : ∃ y, xs[4]? = some y := ⟨_, List.getElem?_eq_getElem (by rw [hlen]; decide)⟩
  rw [← hg 4 _ rfl] at hy
  simp [Value.cells, show Try.prog.cellsOf 9 = 1 from by kernel_rfl] at hy
  obtain ⟨x, e, _, w_x⟩ := DataW.trod_string Try.underlying9 hy
  simp at e
  subst e
  clear hy
  clear hg hlen hf hsz
  have hd : -9223372036854775808 ≤ d ∧ d ≤ 9223372036854775807 := by simp [Lit.wf, IntKind.min, IntKind.max, IntKind.bits, IntKind.signed] at w_d; omega
  have hn : -9223372036854775808 ≤ now ∧ now ≤ 9223372036854775807 := by simp [Lit.wf, IntKind.min, IntKind.max, IntKind.bits, IntKind.signed] at wn; omega
  have hl : 0 ≤ later ∧ later ≤ 65535 := by simp [Lit.wf, IntKind.min, IntKind.max, IntKind.bits, IntKind.signed] at wl; omega
  exact cookFresh_any a b c d x now later hd hn hl W
end Go.Proofs.Ytapogkodlempkaa

/- Paths: all paths of a table, in order, by what the library's sort says. No conditions. -/
import Derived.Test.YtenngklohffoaaaPthZ
import Derived.Shelf.SlSortCmp.Kit1
namespace Go.Proofs.Ytenngklohffoaaa
set_option linter.unusedVariables false
set_option linter.unusedSimpArgs false
open Go.RowKit Sym Go.Maps Go.WideMaps Go.Sort Go.Lib Go.Shelf

/-- what the library's sort says -/
def SortLaw : Prop := ∀ (α : Type) [Inhabited α] (enc : α → Value), OneCell enc → ∀ cf : α → α → Int, SWO (ltOf cf) → ∀ (g : Nat) (cb : Array Value) (blk off cap : Nat) (d : Array α) (w : World),
  (∀ args w, (callFunc g args).run Try.prog w = .ok (.enter g args) w) → CmpLays1 Try.prog g cb enc cf blk off d.size w → Holds enc w blk off d → blk < w.heap.size → d.size < 4611686018427387904 →
    Calls Try.prog 20 #[.slice (some ⟨blk, off, none⟩) d.size cap, .func (.func g) #[] cb] w fun e w' =>
      e = .returned (.tuple #[]) ∧ ∃ d' n os, PermIn 0 d.size d d' ∧ SortedIn (ltOf cf) 0 d.size d' ∧ w' = sortWorld enc w blk off n d' os
section
variable {α : Type} [Inhabited α] {enc : α → Value}
theorem holdsG {w : World} {g : Nat} {cur : Array Value} {e : TypeId} {d : List α} (hb : w.heap[g]? = some (.cells cur e (0, 0))) (ht : cur.toList.take d.length = d.map enc) : Holds enc w g 0 d.toArray := by
  intro j hj
  have hj' : j < d.length := by simpa using hj
  have h1 : (cur.toList.take d.length)[j]? = (d.map enc)[j]? := by rw [ht]
  rw [List.getElem?_take_of_lt hj', Array.getElem?_toList, List.getElem?_map, List.getElem?_eq_getElem hj', Option.map_some] at h1
  refine ⟨?_, by simp [World.frozen?, hb]⟩
  simp only [World.cell?, hb, Nat.zero_add, Option.isSome_none, Bool.false_eq_true, if_false]
  rw [h1, getElem!_pos d.toArray j hj]
  simp
theorem heapG {w : World} {g n : Nat} {os : Array Obj} {cur : Array Value} {e : TypeId} {fr : Nat × Nat} (d : Array α) (hb : w.heap[g]? = some (.cells cur e fr)) :
    (sortWorld enc w g 0 n d os).heap[g]? = some (.cells (putCells enc 0 d cur) e fr) := by
  have hg : g < w.heap.size := (Array.getElem?_eq_some_iff.1 hb).1
  unfold sortWorld
  rw [heap_grow_old _ _ (by simpa using hg)]
  simp [putRow, mapBlock, Sort.ahead, Array.getElem?_modify, hb, onCells]
theorem grownG {w : World} {g n : Nat} {os : Array Obj} (d : Array α) : w.grownBy (sortWorld enc w g 0 n d os) (some g) := by
  refine ⟨rfl, rfl, rfl, by simp [sortWorld], fun k hk hne => ?_⟩
  unfold sortWorld
  rw [heap_grow_old _ _ (by simpa using hk)]
  have : g ≠ k := fun e => hne (by rw [e])
  simp [putRow, mapBlock, Sort.ahead, Array.getElem?_modify, this]
theorem takeG (cur : Array Value) (d : Array α) (h : d.size ≤ cur.size) : (putCells enc 0 d cur).toList.take d.size = d.toList.map enc := by
  apply List.ext_getElem?
  intro j
  by_cases hj : j < d.size
  · rw [List.getElem?_take_of_lt hj, Array.getElem?_toList]
    simp [putCells, hj, show j < cur.size by omega]
  · rw [List.getElem?_take_eq_none (by omega), List.getElem?_eq_none (by simp; omega)]
theorem rowG {w : World} {base g cap n m : Nat} {e : TypeId} {os : Array Obj} {cur : Array Value} {d : Array α} (hl : d.size = m) (hbase : base ≤ g) (hb : w.heap[g]? = some (.cells cur e (0, 0))) (h1 : m ≤ cap) (h2 : cap ≤ maxLen) (h3 : cur.size = cap * 1) :
    (sortWorld enc w g 0 n d os).ownsRow base e 1 (.slice (some ⟨g, 0, none⟩) m cap) m (d.toList.map enc) :=
  ⟨by simp [hl], .inr ⟨g, cap, _, rfl, hbase, heapG _ hb, h1, h2, by simp [putCells, h3], by rw [Nat.mul_one, ← hl]; exact takeG cur d (by omega)⟩⟩
end
abbrev KP (ss : List PRow) := {r : PRow // r ∈ ss}
def encP (ss : List PRow) : KP ss → Value := fun k => ptrOf k.1
def cfP (ss : List PRow) : KP ss → KP ss → Int := fun k k' => compareInt (idN k.1.x k.1.y) (idN k'.1.x k'.1.y)
theorem cfP_lt (ss : List PRow) (k k' : KP ss) : ltOf (cfP ss) k k' = decide (idN k.1.x k.1.y < idN k'.1.x k'.1.y) := by
  unfold ltOf cfP compareInt
  by_cases h1 : idN k.1.x k.1.y < idN k'.1.x k'.1.y
  · simp [h1]
  · by_cases h2 : idN k'.1.x k'.1.y < idN k.1.x k.1.y <;> simp [h1, h2]
theorem swoP (ss : List PRow) : SWO (ltOf (cfP ss)) where
  irrefl x := by rw [cfP_lt]; simp
  trans x y z h1 h2 := by rw [cfP_lt] at *; simp at *; omega
  ntrans x y z h1 h2 := by rw [cfP_lt] at *; simp at *; omega
theorem attach_val (ss : List PRow) : ss.attach.map (fun k => ptrOf k.1) = ss.map ptrOf := by
  have h : (ss.attach.map (·.1)).map ptrOf = ss.map ptrOf := congrArg _ (List.attach_map_subtype_val ss)
  rw [List.map_map] at h
  exact h
set_option maxHeartbeats 1000000 in
/-- the order of paths that came out of a map -/
theorem sort_paths (hS : SortLaw) {W : World} {ss : List PRow} {base g cap : Nat} {e : TypeId} {cur : Array Value} (hne : ss ≠ []) (hbase : base ≤ g) (hb : W.heap[g]? = some (.cells cur e (0, 0))) (h1 : ss.length ≤ cap) (h2 : cap ≤ maxLen) (h3 : cur.size = cap * 1)
    (h4 : cur.toList.take ss.length = ss.map ptrOf) (hp : ∀ r ∈ ss, PathAt W r ∧ r.p ≠ g ∧ InR r) (hsz : ss.length ≤ 6) (hap : Apart ss) :
    Calls Try.prog 20 #[.slice (some ⟨g, 0, none⟩) ss.length cap, .func (.func 21) #[] #[]] W fun e' w' =>
      e' = .returned (.tuple #[]) ∧ ∃ rs, InOrder ss rs ∧ w'.ownsRow base e 1 (.slice (some ⟨g, 0, none⟩) ss.length cap) ss.length (rs.map ptrOf) ∧ W.grownBy w' (some g) := by
  obtain ⟨r0, t0, rfl⟩ := List.exists_cons_of_ne_nil hne
  generalize hss : r0 :: t0 = ss at *
  haveI : Inhabited (KP ss) := ⟨⟨r0, hss ▸ List.mem_cons_self⟩⟩
  have hlen : ss.attach.toArray.size = ss.length := by simp
  have hH : Holds (encP ss) W g 0 ss.attach.toArray := holdsG (e := e) hb (by rw [List.length_attach]; rw [h4]; exact (attach_val ss).symm)
  have hgl : g < W.heap.size := (Array.getElem?_eq_some_iff.1 hb).1
  have hcmp : CmpLays1 Try.prog 21 #[] (encP ss) (cfP ss) g 0 ss.attach.toArray.size W := by
    intro m os dk hs x y
    have hgr := grownG (enc := encP ss) (w := W) (g := g) (n := m) (os := os) dk
    have hk : ∀ r ∈ ss, PathAt (sortWorld (encP ss) W g 0 m dk os) r := fun r hr => (hp r hr).1.kept (hgr.block _ (hp r hr).1.lt (fun e => (hp r hr).2.1 (by injection e)))
    have hx := hk x.1 x.2
    have hy := hk y.1 y.2
    exact all_order hx.x hx.y hy.x hy.y
  have eg : ∀ args w, (callFunc 21 args).run Try.prog w = .ok (.enter 21 args) w := enters_of Try.func21 (by kernel_rfl) rfl
  have hcon := hS (KP ss) (encP ss) (fun _ => rfl) (cfP ss) (swoP ss) 21 #[] g 0 cap ss.attach.toArray W eg hcmp hH hgl (by omega)
  rw [hlen] at hcon
  refine hcon.mono ?_
  rintro e' w' ⟨rfl, d', nn, os, ⟨hp1, -, hp3⟩, hs, rfl⟩
  have hsz' : d'.size = ss.length := by rw [hp1]; exact hlen
  have hperm : (d'.toList.map (·.1)).Perm ss := by
    have e1 : (d'.extract 0 ss.length).toList = d'.toList := by simp [← hsz']
    have e2 : (ss.attach.toArray.extract 0 ss.length).toList = ss.attach := by
      simp only [List.extract_toArray, List.extract_eq_take_drop]
      simp [List.take_of_length_le]
    rw [e1, e2] at hp3
    have := hp3.map (fun k : KP ss => k.1)
    rwa [List.attach_map_subtype_val] at this
  refine ⟨rfl, d'.toList.map (·.1), ⟨hperm, ?_⟩, ?_, grownG d'⟩
  · rw [List.pairwise_iff_getElem]
    intro i j hi hj hij
    have hi' : i < d'.size := by simpa using hi
    have hj' : j < d'.size := by simpa using hj
    have h1 := hs i j (Nat.zero_le _) hij (by omega)
    rw [getElem!_pos d' _ hj', getElem!_pos d' _ hi', cfP_lt, decide_eq_false_iff_not] at h1
    simp only [List.getElem_map, Array.getElem_toList]
    have r1 := (hp d'[i].1 d'[i].2).2.2
    have r2 := (hp d'[j].1 d'[j].2).2.2
    have q1 : idN d'[i].1.x d'[i].1.y = idP d'[i].1 := idN_in ⟨r1.1, r1.2.1⟩ ⟨r1.2.2.1, r1.2.2.2⟩
    have q2 : idN d'[j].1.x d'[j].1.y = idP d'[j].1 := idN_in ⟨r2.1, r2.2.1⟩ ⟨r2.2.2.1, r2.2.2.2⟩
    rw [q1, q2] at h1
    have hnd : (d'.toList.map (·.1)).Nodup := hperm.nodup_iff.2 hap.nodup
    rcases Int.lt_or_eq_of_le (Int.not_lt.1 h1) with h | h
    · exact h
    · exfalso
      have := idP_inj hap d'[i].2 d'[j].2 h
      exact List.pairwise_iff_getElem.1 hnd i j hi hj hij (by simpa using this)
  · have hrow := rowG (enc := encP ss) (n := nn) (os := os) (d := d') hsz' hbase hb h1 h2 h3
    rw [List.map_map]
    exact hrow
end Go.Proofs.Ytenngklohffoaaa

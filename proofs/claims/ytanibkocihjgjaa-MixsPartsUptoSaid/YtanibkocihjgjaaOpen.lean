/-
  Arguments by value, opened to cells by what a value of a type may be.
-/
import Derived.Test.YtanibkocihjgjaaBase
import Derived.WideShapes
namespace Go.Proofs.Ytanibkocihjgjaa
open Go.RowKit Go.WideShapes

section
variable {P : Program} {w : World} {r : Reach} {b : Nat} {t : TypeId} {v : Value}

theorem cell_u64 (ht : P.underlying t = some (.int .u64)) (h : Cell.okWide P w r b t v) : ∃ x : BitVec 64, v = U64 x := by
  unfold Cell.okWide at h
  rw [ht] at h
  cases v with
  | int k n =>
    simp only [Cell.ok, ht] at h
    obtain ⟨rfl, hn⟩ := h
    have h0 : 0 ≤ n ∧ n ≤ 18446744073709551615 := by simpa [IntKind.has, IntKind.min, IntKind.max, IntKind.signed, IntKind.bits] using hn
    refine ⟨BitVec.ofNat 64 n.toNat, ?_⟩
    simp only [U64, BitVec.toNat_ofNat]
    congr 1
    omega
  | _ => simp [Cell.ok, ht] at h
theorem cell_u32 (ht : P.underlying t = some (.int .u32)) (h : Cell.okWide P w r b t v) : ∃ x : BitVec 32, v = U32 x := by
  unfold Cell.okWide at h
  rw [ht] at h
  cases v with
  | int k n =>
    simp only [Cell.ok, ht] at h
    obtain ⟨rfl, hn⟩ := h
    have h0 : 0 ≤ n ∧ n ≤ 4294967295 := by simpa [IntKind.has, IntKind.min, IntKind.max, IntKind.signed, IntKind.bits] using hn
    refine ⟨BitVec.ofNat 32 n.toNat, ?_⟩
    simp only [U32, BitVec.toNat_ofNat]
    congr 1
    omega
  | _ => simp [Cell.ok, ht] at h
theorem cell_i64 (ht : P.underlying t = some (.int .i64)) (h : Cell.okWide P w r b t v) : ∃ n : Int, v = .int .i64 n ∧ -9223372036854775808 ≤ n ∧ n ≤ 9223372036854775807 := by
  unfold Cell.okWide at h
  rw [ht] at h
  cases v with
  | int k n =>
    simp only [Cell.ok, ht] at h
    obtain ⟨rfl, hn⟩ := h
    exact ⟨n, rfl, by simpa [IntKind.has, IntKind.min, IntKind.max, IntKind.signed, IntKind.bits] using hn⟩
  | _ => simp [Cell.ok, ht] at h
theorem cell_bool (ht : P.underlying t = some .bool) (h : Cell.okWide P w r b t v) : ∃ x : Bool, v = .bool x := by
  unfold Cell.okWide at h
  rw [ht] at h
  cases v with
  | bool x => exact ⟨x, rfl⟩
  | _ => simp [Cell.ok, ht] at h

/-- An aggregate's cells, each with its type. -/
theorem agg_cells {d : TypeDesc} {ts : List TypeId} {n : Nat} (ht : P.underlying t = some d) (hd : (match d with | .struct _ | .array _ _ => true | _ => false) = true) (hts : P.cellTypes P.depth t = some ts) (hn : ts.length = n) (hC : P.cellsOf t = n)
    (h : Value.okWide P w r b t v) : ∃ cs : Array Value, v = .agg cs ∧ cs.size = n ∧ ∀ i, i < n → ∃ x u, cs[i]? = some x ∧ ts[i]? = some u ∧ Cell.okWide P w r b u x := by
  unfold Value.okWide at h
  rw [ht] at h
  have h' : ∃ cs, v = .agg cs ∧ cs.size = P.cellsOf t ∧ Row.okWide P w r b t cs := by cases d <;> first | exact h | cases hd
  obtain ⟨cs, rfl, hs, ts', hts', _, hc⟩ := h'
  rw [hts] at hts'
  cases hts'
  refine ⟨cs, rfl, by rw [hs, hC], fun i hi => ?_⟩
  have hi' : i < cs.size := by rw [hs, hC]; exact hi
  obtain ⟨u, hu, hk⟩ := hc i cs[i] (Array.getElem?_eq_getElem hi')
  rw [hn, Nat.mod_eq_of_lt hi] at hu
  exact ⟨cs[i], u, Array.getElem?_eq_getElem hi', hu, hk⟩

theorem choose_words {n off : Nat} {cs : Array Value} (h : ∀ i, i < n → ∃ x : BitVec 32, cs[off + i]? = some (U32 x)) : ∃ V : Nat → BitVec 32, ∀ i, i < n → cs[off + i]? = some (U32 (V i)) := by
  refine ⟨fun i => if hi : i < n then (h i hi).choose else 0, fun i hi => ?_⟩
  simp only [dif_pos hi]
  exact (h i hi).choose_spec

theorem words_of {n : Nat} {cs : Array Value} {V : Nat → BitVec 32} (hs : cs.size = n) (h : ∀ i, i < n → cs[0 + i]? = some (U32 (V i))) : cs = words n V := by
  apply Array.ext_getElem?
  intro j
  rw [words_get']
  by_cases hj : j < n
  · rw [if_pos hj]
    have := h j hj
    rwa [Nat.zero_add] at this
  · rw [if_neg hj, Array.getElem?_eq_none (by omega)]

/-- An array of n words. -/
theorem open_words {e : TypeId} {ts : List TypeId} {n : Nat} (ht : P.underlying t = some (.array n e)) (he : P.underlying e = some (.int .u32)) (hts : P.cellTypes P.depth t = some ts) (hn : ts.length = n) (hC : P.cellsOf t = n) (hall : ∀ u ∈ ts, u = e)
    (h : Value.okWide P w r b t v) : ∃ V : Nat → BitVec 32, v = .agg (words n V) := by
  obtain ⟨cs, rfl, hs, hc⟩ := agg_cells ht rfl hts hn hC h
  obtain ⟨V, hV⟩ := choose_words (n := n) (off := 0) (cs := cs) (fun i hi => by
    obtain ⟨x, u, hx, hu, hk⟩ := hc i hi
    obtain rfl := hall u (List.mem_of_getElem? hu)
    obtain ⟨y, rfl⟩ := cell_u32 he hk
    exact ⟨y, by rw [Nat.zero_add]; exact hx⟩)
  exact ⟨V, by rw [words_of hs hV]⟩
end
end Go.Proofs.Ytanibkocihjgjaa

/-
  All edges, in plain words.
-/
import Derived.Test.YtakmcpadkanggaaK1
namespace Go.Proofs.Ytakmcpadkanggaa
open Go.RowKit Go.Maps Go.Deep

theorem nthV_lt {p : Nat → Bool} {j m : Nat} : nthV p j m < j := by
  unfold nthV
  cases h : (pickL p j)[m]? with
  | none => simp only; omega
  | some i =>
    have := ((pickL_mem p j i).1 (List.mem_of_getElem? h)).1
    simp only
    omega
theorem natL_lt {p : Nat → Bool} {j : Nat} {x : Int} (h : x ∈ natL (pickL p j)) : x < j := by
  unfold natL at h
  obtain ⟨i, hi, rfl⟩ := List.mem_map.1 h
  have := ((pickL_mem p j i).1 hi).1
  show (i : Int) < j
  omega
theorem refM_lt {E : Nat → Ev} {rm : Int → Int} {j : Nat} {e : Ev} {x : Int} (h : x ∈ refM E rm j e) : x < j := by
  unfold refM at h
  split at h
  · split at h
    · cases hs : shutN E e.a j with
      | none => rw [hs] at h; simp at h
      | some i =>
        rw [hs] at h
        obtain rfl : x = i := by simpa using h
        exact (shutN_lt hs).2
    · obtain rfl := List.mem_singleton.1 h
      exact nthV_lt
  · split at h
    · split at h
      · obtain rfl := List.mem_singleton.1 h
        exact nthV_lt
      · simp at h
    · split at h
      · exact natL_lt h
      · split at h
        · exact natL_lt h
        · simp at h
/-- The events that may be looked at: each may come next. -/
def OkAll (S : Sys) (E : Nat → Ev) (n : Nat) : Prop := ∀ j, j < n → okE S (stN E j) (E j) = true
section
variable {S : Sys} {E : Nat → Ev} {rm : Int → Int} {n j : Nat}
theorem intoL_mem (hok : okE S (stN E j) (E j) = true) (x : Int) : x ∈ intoL E rm j ↔ x ∈ ownL (lkN E j) (E j).who ++ refM E rm j (E j) ∧ 0 ≤ x := by
  unfold intoL
  rw [(sc_law _).2, into_same E rm j (E j) (fun h6 hs => ok_take hok h6 hs) (fun h6 hs => ok_shut hok h6 hs)]
theorem intoL_lt (hok : okE S (stN E j) (E j) = true) {x : Int} (h : x ∈ intoL E rm j) : 0 ≤ x ∧ x < j := by
  obtain ⟨h1, h2⟩ := (intoL_mem hok x).1 h
  refine ⟨h2, ?_⟩
  rcases List.mem_append.1 h1 with h1 | h1
  · exact (ownL_pos h1).2
  · exact refM_lt h1
theorem rising_len {ys : List Int} {j : Nat} (h : ys.Pairwise (· < ·)) (hm : ∀ x ∈ ys, 0 ≤ x ∧ x < j) : ys.length ≤ j := by
  have key : ∀ i (hi : i < ys.length), (i : Int) ≤ ys[i] := by
    intro i
    induction i with
    | zero => intro hi; exact (hm _ (List.getElem_mem hi)).1
    | succ i ih =>
      intro hi
      have h1 := ih (by omega)
      have h2 := List.pairwise_iff_getElem.1 h i (i + 1) (by omega) hi (by omega)
      omega
  rcases Nat.eq_zero_or_pos ys.length with h0 | h0
  · omega
  · have h1 := key (ys.length - 1) (by omega)
    have h2 := (hm _ (List.getElem_mem (show ys.length - 1 < ys.length by omega))).2
    omega
theorem intoL_length (hok : okE S (stN E j) (E j) = true) : (intoL E rm j).length ≤ j := rising_len (sc_law _).1 fun _ hx => intoL_lt hok hx
end
/-- The edges to event j; to the events below k. -/
def edgJ (E : Nat → Ev) (rm : Int → Int) (j : Nat) : List (Int × Int) := (intoL E rm j).map fun i => (i, (j : Int))
def edgN (E : Nat → Ev) (rm : Int → Int) : Nat → List (Int × Int)
  | 0 => []
  | k + 1 => edgN E rm k ++ edgJ E rm k
theorem edgN_mono (E : Nat → Ev) (rm : Int → Int) : ∀ {k n : Nat}, k ≤ n → (edgN E rm k).length ≤ (edgN E rm n).length
  | k, 0, h => by obtain rfl : k = 0 := by omega
                  exact Nat.le_refl _
  | k, n + 1, h => by
    by_cases e : k = n + 1
    · subst e; exact Nat.le_refl _
    · have := edgN_mono E rm (k := k) (n := n) (by omega)
      simp only [edgN, List.length_append]
      omega
/-- What Edges answers. -/
def edgR (S : Sys) (E : Nat → Ev) (rm : Int → Int) (n : Nat) : List (Int × Int) × Int :=
  if (thr S E n).2.2 = 0 then (if 65536 < (edgN E rm n).length then ([], 2) else (edgN E rm n, 0)) else ([], (thr S E n).2.2)
theorem edgR_bad {S : Sys} {E : Nat → Ev} {rm : Int → Int} {n : Nat} (h : ¬ (thr S E n).2.2 = 0) : edgR S E rm n = ([], (thr S E n).2.2) := if_neg h
theorem edgR_long {S : Sys} {E : Nat → Ev} {rm : Int → Int} {n k : Nat} (h : (thr S E n).2.2 = 0) (hk : k ≤ n) (hl : 65536 < (edgN E rm k).length) : edgR S E rm n = ([], 2) := by
  unfold edgR
  rw [if_pos h, if_pos (by have := edgN_mono E rm hk; omega)]
theorem edgR_ok {S : Sys} {E : Nat → Ev} {rm : Int → Int} {n : Nat} (h : (thr S E n).2.2 = 0) (hl : (edgN E rm n).length ≤ 65536) : edgR S E rm n = (edgN E rm n, 0) := by
  unfold edgR
  rw [if_pos h, if_neg (by omega)]
end Go.Proofs.Ytakmcpadkanggaa

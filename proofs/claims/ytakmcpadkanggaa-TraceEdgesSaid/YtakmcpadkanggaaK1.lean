/-
  What the document gathers for an event is what the links give.
-/
import Derived.Test.YtakmcpadkanggaaR1
namespace Go.Proofs.Ytakmcpadkanggaa
open Go.RowKit Go.Maps Go.Deep

def oI (o : Option Int) : Int := o.getD (-1)
/-- What the document gathers besides the runner's own. -/
def refM (E : Nat → Ev) (rm : Int → Int) (j : Nat) (e : Ev) : List Int :=
  if e.op = 6 then (if e.sh then (shutN E e.a j).toList else [nthV (isSend E e.a) j (pickL (isTake E e.a) j).length])
  else if e.op = 5 then (if rm e.a ≤ ((pickL (isSend E e.a) j).length : Int) then [nthV (isTake E e.a) j (((pickL (isSend E e.a) j).length : Int) - rm e.a).toNat] else [])
  else if e.op = 8 then natL (freeL E e.a (aftN E e.a j) j)
  else if e.op = 11 then natL (pickL (isAdd E e.a) j)
  else []
theorem lastN_lt {E : Nat → Ev} {who i : Int} : ∀ {j : Nat}, lastN E who j = some i → 0 ≤ i ∧ i < j
  | 0, h => by simp [lastN] at h
  | j + 1, h => by
    unfold lastN at h
    split at h
    · cases h; omega
    · have := lastN_lt h; omega
theorem bornN_lt {E : Nat → Ev} {who i : Int} : ∀ {j : Nat}, bornN E who j = some i → 0 ≤ i ∧ i < j
  | 0, h => by simp [bornN] at h
  | j + 1, h => by
    unfold bornN at h
    split at h
    · cases h; omega
    · have := bornN_lt h; omega
theorem shutN_lt {E : Nat → Ev} {a i : Int} : ∀ {j : Nat}, shutN E a j = some i → 0 ≤ i ∧ i < j
  | 0, h => by simp [shutN] at h
  | j + 1, h => by
    unfold shutN at h
    split at h
    · cases h; omega
    · have := shutN_lt h; omega
theorem natL_pos {l : List Nat} {x : Int} (h : x ∈ natL l) : 0 ≤ x := by
  unfold natL at h
  obtain ⟨i, _, rfl⟩ := List.mem_map.1 h
  exact Int.natCast_nonneg i
theorem natL_getD (l : List Nat) (m : Nat) : (natL l)[m]? = l[m]?.map Int.ofNat := by simp [natL]
theorem ownL_lk (E : Nat → Ev) (j : Nat) (who : Int) : ownL (lkN E j) who = match lastN E who j with | some i => [i] | none => match bornN E who j with | some i => [i] | none => [] := by
  unfold ownL
  rw [lk_o4, lk_o5]
  cases lastN E who j with
  | some i => rfl
  | none => cases bornN E who j <;> rfl
theorem ownL_pos {E : Nat → Ev} {j : Nat} {who x : Int} (h : x ∈ ownL (lkN E j) who) : 0 ≤ x ∧ x < j := by
  rw [ownL_lk] at h
  cases hl : lastN E who j with
  | some i =>
    rw [hl] at h
    obtain rfl : x = i := by simpa using h
    exact lastN_lt hl
  | none =>
    rw [hl] at h
    cases hb : bornN E who j with
    | some i =>
      rw [hb] at h
      obtain rfl : x = i := by simpa using h
      exact bornN_lt hb
    | none => rw [hb] at h; simp at h
theorem nthV_some {p : Nat → Bool} {j m : Nat} (h : m < (pickL p j).length) : nthV p j m = (natL (pickL p j)).getD m 0 ∧ 0 ≤ nthV p j m := by
  unfold nthV
  rw [List.getElem?_eq_getElem h, List.getD_eq_getElem?_getD, natL_getD, List.getElem?_eq_getElem h]
  exact ⟨rfl, Int.natCast_nonneg _⟩
theorem nthV_none {p : Nat → Bool} {j m : Nat} (h : (pickL p j).length ≤ m) : nthV p j m = -1 := by
  unfold nthV
  rw [List.getElem?_eq_none h]
/-- What the document gathers, but for what is below 0, is what the links give. -/
theorem into_same (E : Nat → Ev) (rm : Int → Int) (j : Nat) (e : Ev) (ht : e.op = 6 → e.sh = false → (pickL (isTake E e.a) j).length < (pickL (isSend E e.a) j).length) (hs : e.op = 6 → e.sh = true → (shutN E e.a j).isSome = true) (x : Int) :
    (x ∈ ownL (lkN E j) e.who ++ refM E rm j e ∧ 0 ≤ x) ↔ x ∈ nextR (lkN E j) rm e := by
  have hown : x ∈ ownL (lkN E j) e.who → 0 ≤ x := fun h => (ownL_pos h).1
  suffices h : (x ∈ refM E rm j e ∧ 0 ≤ x) ↔ x ∈ (if e.op = 5 then (if 1 ≤ (((lkN E j).rows 0 e.a).length + 1 : Nat) - rm e.a ∧ (((lkN E j).rows 0 e.a).length + 1 : Nat) - rm e.a ≤ (((lkN E j).rows 1 e.a).length : Nat) then [((lkN E j).rows 1 e.a).getD ((((lkN E j).rows 0 e.a).length + 1 : Nat) - rm e.a - 1).toNat 0] else [])
    else if e.op = 6 then (if e.sh then [((lkN E j).ones 6 e.a).getD 0] else [((lkN E j).rows 0 e.a).getD ((lkN E j).rows 1 e.a).length 0])
    else if e.op = 8 then (lkN E j).rows 2 e.a else if e.op = 11 then (lkN E j).rows 3 e.a else []) by
    unfold nextR
    rw [List.mem_append, List.mem_append, ← h]
    constructor
    · rintro ⟨a | a, b⟩
      · exact .inl a
      · exact .inr ⟨a, b⟩
    · rintro (a | ⟨a, b⟩)
      · exact ⟨.inl a, hown a⟩
      · exact ⟨.inr a, b⟩
  rw [lk_r0, lk_r1, lk_r2, lk_r3, lk_o6]
  simp only [natL_length]
  unfold refM
  by_cases h5 : e.op = 5
  · rw [if_neg (by omega), if_pos h5, if_pos h5]
    by_cases hr : rm e.a ≤ ((pickL (isSend E e.a) j).length : Int)
    · rw [if_pos hr]
      have e1 : ((((pickL (isSend E e.a) j).length + 1 : Nat) : Int) - rm e.a - 1).toNat = (((pickL (isSend E e.a) j).length : Int) - rm e.a).toNat := by congr 1; omega
      rcases Nat.lt_or_ge (((pickL (isSend E e.a) j).length : Int) - rm e.a).toNat (pickL (isTake E e.a) j).length with hl | hl
      · rw [if_pos (by omega), e1, (nthV_some hl).1.symm]
        have := (nthV_some hl).2
        rw [List.mem_singleton]
        exact ⟨fun h => h.1, fun h => ⟨h, by rw [h]; exact this⟩⟩
      · rw [if_neg (by omega), nthV_none hl, List.mem_singleton]
        simp
        omega
    · rw [if_neg hr, if_neg (by omega)]
      simp
  · by_cases h6 : e.op = 6
    · rw [if_pos h6, if_neg h5, if_pos h6]
      cases hsh : e.sh with
      | true =>
        rw [if_pos rfl, if_pos rfl]
        obtain ⟨i, hi⟩ := Option.isSome_iff_exists.1 (hs h6 hsh)
        rw [hi]
        have := shutN_lt hi
        simp
        omega
      | false =>
        have hl := ht h6 hsh
        rw [if_neg (by simp), if_neg (by simp), (nthV_some hl).1.symm, List.mem_singleton]
        have := (nthV_some hl).2
        exact ⟨fun h => h.1, fun h => ⟨h, by rw [h]; exact this⟩⟩
    · rw [if_neg h6, if_neg h5, if_neg h5, if_neg h6]
      by_cases h8 : e.op = 8
      · simp only [if_pos h8]
        exact ⟨fun h => h.1, fun h => ⟨h, natL_pos h⟩⟩
      · simp only [if_neg h8]
        by_cases h11 : e.op = 11
        · simp only [if_pos h11]
          exact ⟨fun h => h.1, fun h => ⟨h, natL_pos h⟩⟩
        · simp only [if_neg h11]
          simp
theorem into_rose {E : Nat → Ev} {rm : Int → Int} {j : Nat} {ys : List Int} (h : Rose ys (ownL (lkN E j) (E j).who ++ refM E rm j (E j)))
    (ht : (E j).op = 6 → (E j).sh = false → (pickL (isTake E (E j).a) j).length < (pickL (isSend E (E j).a) j).length) (hs : (E j).op = 6 → (E j).sh = true → (shutN E (E j).a j).isSome = true) : ys = intoL E rm j :=
  sc_eq h.1 fun x => by rw [h.2.1]; exact into_same E rm j (E j) ht hs x
/-! ### What validity says of the links -/
theorem stN_counts (E : Nat → Ev) (a : Int) : ∀ j, (stN E j).sent a = ((pickL (isSend E a) j).length : Int) ∧ (stN E j).took a = ((pickL (isTake E a) j).length : Int) ∧ ((stN E j).shut a = true ↔ (shutN E a j).isSome = true)
  | 0 => ⟨rfl, rfl, by simp [stN, st0, shutN]⟩
  | j + 1 => by
    obtain ⟨h1, h2, h3⟩ := stN_counts E a j
    rw [pickL_succ, pickL_succ, List.length_append, List.length_append]
    show (nextE (stN E j) (E j)).sent a = _ ∧ (nextE (stN E j) (E j)).took a = _ ∧ ((nextE (stN E j) (E j)).shut a = true ↔ _)
    have e7 : (shutN E a (j + 1)) = if (E j).op = 7 ∧ (E j).a = a ∧ (shutN E a j).isNone then some (j : Int) else shutN E a j := rfl
    rw [e7]
    unfold nextE
    by_cases h14 : (E j).op = 14
    · rw [if_pos h14, if_neg (show ¬ isSend E a j = true by simp [isSend, h14]), if_neg (show ¬ isTake E a j = true by simp [isTake, h14]), if_neg (show ¬ ((E j).op = 7 ∧ (E j).a = a ∧ (shutN E a j).isNone = true) by omega)]
      split <;> exact ⟨by simpa using h1, by simpa using h2, h3⟩
    · rw [if_neg h14]
      by_cases h5 : (E j).op = 5
      · rw [if_pos h5, if_neg (show ¬ isTake E a j = true by simp [isTake, h5]), if_neg (show ¬ ((E j).op = 7 ∧ (E j).a = a ∧ (shutN E a j).isNone = true) by omega)]
        refine ⟨?_, by simpa using h2, h3⟩
        by_cases ha : (E j).a = a
        · subst ha
          rw [if_pos (show isSend E (E j).a j = true by simp [isSend, h5])]
          simp [updI, h1]
        · rw [if_neg (show ¬ isSend E a j = true by simp [isSend, ha])]
          simp only [updI_other _ _ _ _ (fun q => ha (Eq.symm q))]
          simpa using h1
      · rw [if_neg h5, if_neg (show ¬ isSend E a j = true by simp [isSend, h5])]
        by_cases h6 : (E j).op = 6
        · rw [if_pos h6, if_neg (show ¬ ((E j).op = 7 ∧ (E j).a = a ∧ (shutN E a j).isNone = true) by omega)]
          by_cases hs : (E j).sh = true
          · rw [if_pos hs, if_neg (show ¬ isTake E a j = true by simp [isTake, hs])]
            exact ⟨by simpa using h1, by simpa using h2, h3⟩
          · rw [if_neg hs]
            refine ⟨by simpa using h1, ?_, h3⟩
            by_cases ha : (E j).a = a
            · subst ha
              rw [if_pos (show isTake E (E j).a j = true by simp [isTake, h6, hs])]
              simp [updI, h2]
            · rw [if_neg (show ¬ isTake E a j = true by simp [isTake, ha])]
              simp only [updI_other _ _ _ _ (fun q => ha (Eq.symm q))]
              simpa using h2
        · rw [if_neg h6, if_neg (show ¬ isTake E a j = true by simp [isTake, h6])]
          by_cases h7 : (E j).op = 7
          · rw [if_pos h7]
            refine ⟨by simpa using h1, by simpa using h2, ?_⟩
            by_cases ha : (E j).a = a
            · subst ha
              simp only [updI_same]
              split
              · simp
              · rename_i hq
                cases hx : shutN E (E j).a j with
                | some i => simp
                | none => exact absurd ⟨h7, trivial, by rw [hx]; rfl⟩ hq
            · simp only [updI_other _ _ _ _ (fun q => ha (Eq.symm q))]
              rw [if_neg (fun q => ha q.2.1)]
              exact h3
          · rw [if_neg h7, if_neg (show ¬ ((E j).op = 7 ∧ (E j).a = a ∧ (shutN E a j).isNone = true) by omega)]
            split
            · exact ⟨by simpa using h1, by simpa using h2, h3⟩
            · split <;> exact ⟨by simpa using h1, by simpa using h2, h3⟩
theorem ok_take {S : Sys} {E : Nat → Ev} {j : Nat} (h : okE S (stN E j) (E j) = true) (h6 : (E j).op = 6) (hs : (E j).sh = false) : (pickL (isTake E (E j).a) j).length < (pickL (isSend E (E j).a) j).length := by
  unfold okE bodyE at h
  rw [if_neg (by omega), if_pos h6, hs] at h
  simp only [Bool.and_eq_true, Bool.false_eq_true, if_false, decide_eq_true_eq] at h
  obtain ⟨h1, h2, _⟩ := stN_counts E (E j).a j
  omega
theorem ok_shut {S : Sys} {E : Nat → Ev} {j : Nat} (h : okE S (stN E j) (E j) = true) (h6 : (E j).op = 6) (hs : (E j).sh = true) : (shutN E (E j).a j).isSome = true := by
  unfold okE bodyE at h
  rw [if_neg (by omega), if_pos h6, hs] at h
  simp only [Bool.and_eq_true, if_true] at h
  exact (stN_counts E (E j).a j).2.2.1 h.2
end Go.Proofs.Ytakmcpadkanggaa

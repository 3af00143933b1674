/-
  From where edges lead to an event, in plain words: what the links know behind j events; sorted lists.
-/
import Derived.Test.YtakmcpadkanggaaT23
import Derived.Lib.SlicesCompact
namespace Go.Proofs.Ytakmcpadkanggaa
open Go.RowKit Go.Maps Go.Deep

/-! ### The links -/
/-- What the links know: of sends (0), takes (1), frees (2), adds (3) the rows; the last event (4), the start (5), the close (6). -/
structure Lk where
  rows : Nat → Int → List Int
  ones : Nat → Int → Option Int
def lk0 : Lk := ⟨fun _ _ => [], fun _ _ => none⟩
/-- Nothing, or one number. -/
def ownL (k : Lk) (who : Int) : List Int := match k.ones 4 who with | some i => [i] | none => match k.ones 5 who with | some i => [i] | none => []
def ownK (k : Lk) (who j : Int) : Lk := ⟨k.rows, updN k.ones 4 (updI (k.ones 4) who (some j))⟩
/-- Sorted, each once. -/
def scL (xs : List Int) : List Int := Lib.compact (xs.mergeSort fun x y => decide (x ≤ y))
/-- The row that next gathers; rm: the rooms. -/
def nextR (k : Lk) (rm : Int → Int) (e : Ev) : List Int :=
  ownL k e.who ++ (if e.op = 5 then (if 1 ≤ ((k.rows 0 e.a).length + 1 : Nat) - rm e.a ∧ ((k.rows 0 e.a).length + 1 : Nat) - rm e.a ≤ ((k.rows 1 e.a).length : Nat) then [(k.rows 1 e.a).getD (((k.rows 0 e.a).length + 1 : Nat) - rm e.a - 1).toNat 0] else [])
    else if e.op = 6 then (if e.sh then [(k.ones 6 e.a).getD 0] else [(k.rows 0 e.a).getD (k.rows 1 e.a).length 0])
    else if e.op = 8 then k.rows 2 e.a else if e.op = 11 then k.rows 3 e.a else [])
def pushK (k : Lk) (i : Nat) (a y : Int) : Lk := ⟨updN k.rows i (updI (k.rows i) a (k.rows i a ++ [y])), k.ones⟩
def oneK (k : Lk) (i : Nat) (a y : Int) : Lk := ⟨k.rows, updN k.ones i (updI (k.ones i) a (some y))⟩
/-- What next leaves behind. -/
def nextK (k : Lk) (j : Int) (e : Ev) : Lk :=
  if e.op = 14 then (if 0 < e.v then oneK (ownK k e.who j) 5 e.v j else ownK k e.who j)
  else if e.op = 5 then pushK (ownK k e.who j) 0 e.a j
  else if e.op = 6 then (if e.sh then ownK k e.who j else pushK (ownK k e.who j) 1 e.a j)
  else if e.op = 7 then (if (k.ones 6 e.a).isSome then ownK k e.who j else oneK (ownK k e.who j) 6 e.a j)
  else if e.op = 9 then pushK (ownK k e.who j) 2 e.a j
  else if e.op = 8 then ⟨updN (ownK k e.who j).rows 2 (updI ((ownK k e.who j).rows 2) e.a []), (ownK k e.who j).ones⟩
  else if e.op = 10 then pushK (ownK k e.who j) 3 e.a j
  else ownK k e.who j

/-! ### Sorted, each once -/
theorem ss_ext : ∀ {xs ys : List Int}, xs.Pairwise (· < ·) → ys.Pairwise (· < ·) → (∀ x, x ∈ xs ↔ x ∈ ys) → xs = ys
  | [], [], _, _, _ => rfl
  | [], y :: ys, _, _, h => absurd ((h y).2 (by simp)) (by simp)
  | x :: xs, [], _, _, h => absurd ((h x).1 (by simp)) (by simp)
  | x :: xs, y :: ys, h1, h2, h => by
    rw [List.pairwise_cons] at h1 h2
    have e : x = y := by
      rcases List.mem_cons.1 ((h x).1 (by simp)) with e | e
      · exact e
      · rcases List.mem_cons.1 ((h y).2 (by simp)) with e' | e'
        · exact e'.symm
        · have := h1.1 y e'
          have := h2.1 x e
          omega
    subst e
    congr 1
    refine ss_ext h1.2 h2.2 fun z => ⟨fun hz => ?_, fun hz => ?_⟩
    · rcases List.mem_cons.1 ((h z).1 (by simp [hz])) with e | e
      · have := h1.1 z hz; omega
      · exact e
    · rcases List.mem_cons.1 ((h z).2 (by simp [hz])) with e | e
      · have := h2.1 z hz; omega
      · exact e
theorem compactUpTo_law (d : Array Int) (hd : ∀ i j, i ≤ j → j < d.size → d[i]! ≤ d[j]!) : ∀ m, m ≤ d.size → (Lib.compactUpTo d m).Pairwise (· < ·) ∧ ∀ x, x ∈ Lib.compactUpTo d m ↔ ∃ i, i < m ∧ d[i]! = x
  | 0, _ => by simp [Lib.compactUpTo]
  | m + 1, hm => by
    obtain ⟨h1, h2⟩ := compactUpTo_law d hd m (by omega)
    rw [Lib.compactUpTo_succ]
    by_cases hk : Lib.keeps d m = true
    · rw [if_pos hk]
      refine ⟨List.pairwise_append.2 ⟨h1, by simp, fun x hx y hy => ?_⟩, fun x => ?_⟩
      · obtain rfl : y = d[m]! := by simpa using hy
        obtain ⟨i, hi, rfl⟩ := (h2 x).1 hx
        have a1 := hd i (m - 1) (by omega) (by omega)
        have a2 := hd (m - 1) m (by omega) (by omega)
        have a3 : d[m]! ≠ d[m - 1]! := fun e => by
          rw [Lib.keeps_neg (by omega) e] at hk
          cases hk
        omega
      · rw [List.mem_append, h2]
        simp only [List.mem_singleton]
        constructor
        · rintro (⟨i, hi, e⟩ | e)
          · exact ⟨i, by omega, e⟩
          · exact ⟨m, by omega, e.symm⟩
        · rintro ⟨i, hi, e⟩
          by_cases him : i = m
          · subst him; exact .inr e.symm
          · exact .inl ⟨i, by omega, e⟩
    · rw [if_neg hk, List.append_nil]
      refine ⟨h1, fun x => ?_⟩
      rw [h2]
      have hm0 : m ≠ 0 := fun e => by subst e; exact hk (Lib.keeps_lt_one d 0 (by omega))
      have he : d[m]! = d[m - 1]! := by
        by_cases e : d[m]! = d[m - 1]!
        · exact e
        · exact absurd (Lib.keeps_pos e) hk
      constructor
      · rintro ⟨i, hi, e⟩; exact ⟨i, by omega, e⟩
      · rintro ⟨i, hi, e⟩
        by_cases him : i = m
        · subst him; exact ⟨i - 1, by omega, by rw [← he]; exact e⟩
        · exact ⟨i, by omega, e⟩
theorem sc_law (xs : List Int) : (scL xs).Pairwise (· < ·) ∧ ∀ x, x ∈ scL xs ↔ x ∈ xs := by
  have hp := List.mergeSort_perm xs (fun x y : Int => decide (x ≤ y))
  have hs : (xs.mergeSort fun x y : Int => decide (x ≤ y)).Pairwise (fun a b => decide (a ≤ b) = true) := List.pairwise_mergeSort (fun a b c h1 h2 => by simp only [decide_eq_true_eq] at *; omega) (fun a b => by simp only [Bool.or_eq_true, decide_eq_true_eq]; omega) xs
  unfold scL Lib.compact
  generalize (xs.mergeSort fun x y : Int => decide (x ≤ y)) = zs at hp hs
  have hd : ∀ i j, i ≤ j → j < zs.toArray.size → zs.toArray[i]! ≤ zs.toArray[j]! := fun i j hij hj => by
    have hj' : j < zs.length := by simpa using hj
    rw [getElem!_pos zs.toArray i (by simp; omega), getElem!_pos zs.toArray j hj]
    simp only [List.getElem_toArray]
    rcases Nat.lt_or_ge i j with h | h
    · simpa using List.pairwise_iff_getElem.1 hs i j (by omega) hj' h
    · obtain rfl : i = j := by omega
      exact Int.le_refl _
  obtain ⟨h1, h2⟩ := compactUpTo_law zs.toArray hd zs.length (by simp)
  refine ⟨h1, fun x => ?_⟩
  rw [h2, ← hp.mem_iff]
  constructor
  · rintro ⟨i, hi, e⟩
    rw [getElem!_pos zs.toArray i (by simpa using hi)] at e
    rw [← e]
    simp
  · intro hx
    obtain ⟨i, hi, e⟩ := List.getElem_of_mem hx
    exact ⟨i, hi, by rw [getElem!_pos zs.toArray i (by simpa using hi)]; simpa using e⟩
theorem sc_eq {xs zs : List Int} (h : zs.Pairwise (· < ·)) (hm : ∀ x, x ∈ zs ↔ x ∈ xs) : zs = scL xs := ss_ext h (sc_law xs).1 fun x => by rw [hm, (sc_law xs).2]

/-! ### Places of a kind -/
def pickL (p : Nat → Bool) (j : Nat) : List Nat := (List.range j).filter p
theorem pickL_succ (p : Nat → Bool) (j : Nat) : pickL p (j + 1) = pickL p j ++ if p j then [j] else [] := by
  unfold pickL
  rw [List.range_succ, List.filter_append]
  congr 1
  cases h : p j <;> simp [h]
theorem pickL_prefix (p : Nat → Bool) : ∀ k j, k ≤ j → pickL p k <+: pickL p j
  | k, 0, h => by obtain rfl : k = 0 := by omega
                  exact List.prefix_rfl
  | k, j + 1, h => by
    by_cases e : k = j + 1
    · subst e; exact List.prefix_rfl
    · exact (pickL_prefix p k j (by omega)).trans (by rw [pickL_succ]; exact List.prefix_append _ _)
theorem pickL_at (p : Nat → Bool) {k j : Nat} (hk : k < j) (hp : p k = true) : (pickL p j)[(pickL p k).length]? = some k := by
  obtain ⟨t, ht⟩ := pickL_prefix p (k + 1) j hk
  rw [← ht, pickL_succ, if_pos hp, List.append_assoc, List.getElem?_append_right (Nat.le_refl _), Nat.sub_self]
  rfl
theorem pickL_length (p : Nat → Bool) (j : Nat) : (pickL p j).length ≤ j := by
  have := List.length_filter_le p (List.range j)
  simpa [pickL] using this
theorem pickL_mem (p : Nat → Bool) (j i : Nat) : i ∈ pickL p j ↔ i < j ∧ p i = true := by simp [pickL]
def natL (l : List Nat) : List Int := l.map Int.ofNat
theorem natL_append (l m : List Nat) : natL (l ++ m) = natL l ++ natL m := by simp [natL]
theorem natL_mem (l : List Nat) (i : Nat) : (i : Int) ∈ natL l ↔ i ∈ l := by
  unfold natL
  rw [List.mem_map]
  constructor
  · rintro ⟨b, hb, e⟩
    obtain rfl : b = i := Int.ofNat.inj e
    exact hb
  · exact fun h => ⟨i, h, rfl⟩
theorem natL_length (l : List Nat) : (natL l).length = l.length := by simp [natL]
def isSend (E : Nat → Ev) (a : Int) (i : Nat) : Bool := decide ((E i).op = 5) && decide ((E i).a = a)
def isTake (E : Nat → Ev) (a : Int) (i : Nat) : Bool := decide ((E i).op = 6) && (decide ((E i).a = a) && !(E i).sh)
def isFree (E : Nat → Ev) (a : Int) (i : Nat) : Bool := decide ((E i).op = 9) && decide ((E i).a = a)
def isAdd (E : Nat → Ev) (a : Int) (i : Nat) : Bool := decide ((E i).op = 10) && decide ((E i).a = a)
/-- The last lock of a ahead of j; 0: none. -/
def aftN (E : Nat → Ev) (a : Int) : Nat → Nat
  | 0 => 0
  | j + 1 => if (E j).op = 8 ∧ (E j).a = a then j else aftN E a j
def freeL (E : Nat → Ev) (a : Int) (m j : Nat) : List Nat := pickL (fun i => isFree E a i && decide (m ≤ i)) j
def lastN (E : Nat → Ev) (who : Int) : Nat → Option Int
  | 0 => none
  | j + 1 => if (E j).who = who then some (j : Int) else lastN E who j
def bornN (E : Nat → Ev) (who : Int) : Nat → Option Int
  | 0 => none
  | j + 1 => if (E j).op = 14 ∧ 0 < (E j).v ∧ (E j).v = who then some (j : Int) else bornN E who j
def shutN (E : Nat → Ev) (a : Int) : Nat → Option Int
  | 0 => none
  | j + 1 => if (E j).op = 7 ∧ (E j).a = a ∧ (shutN E a j).isNone then some (j : Int) else shutN E a j
/-- What the links know behind j events. -/
def lkN (E : Nat → Ev) : Nat → Lk
  | 0 => lk0
  | j + 1 => nextK (lkN E j) (j : Int) (E j)
/-- From where edges lead to event j. -/
def intoL (E : Nat → Ev) (rm : Int → Int) (j : Nat) : List Int := scL (nextR (lkN E j) rm (E j))
section
variable (k : Lk) (j : Int) (e : Ev) (a : Int)
theorem nextK_r0 : (nextK k j e).rows 0 a = if e.op = 5 ∧ e.a = a then k.rows 0 a ++ [j] else k.rows 0 a := by
  unfold nextK
  rcases Decidable.em (e.a = a) with h | h
  · subst h
    repeat' split
    all_goals simp_all [pushK, oneK, ownK, updN, updI]
  · have h' : ¬ a = e.a := fun q => h q.symm
    repeat' split
    all_goals simp_all [pushK, oneK, ownK, updN, updI]
theorem nextK_r1 : (nextK k j e).rows 1 a = if e.op = 6 ∧ e.sh = false ∧ e.a = a then k.rows 1 a ++ [j] else k.rows 1 a := by
  unfold nextK
  rcases Decidable.em (e.a = a) with h | h
  · subst h
    repeat' split
    all_goals simp_all [pushK, oneK, ownK, updN, updI]
  · have h' : ¬ a = e.a := fun q => h q.symm
    repeat' split
    all_goals simp_all [pushK, oneK, ownK, updN, updI]
theorem nextK_r2 : (nextK k j e).rows 2 a = if e.op = 9 ∧ e.a = a then k.rows 2 a ++ [j] else if e.op = 8 ∧ e.a = a then [] else k.rows 2 a := by
  unfold nextK
  rcases Decidable.em (e.a = a) with h | h
  · subst h
    repeat' split
    all_goals simp_all [pushK, oneK, ownK, updN, updI]
  · have h' : ¬ a = e.a := fun q => h q.symm
    repeat' split
    all_goals simp_all [pushK, oneK, ownK, updN, updI]
theorem nextK_r3 : (nextK k j e).rows 3 a = if e.op = 10 ∧ e.a = a then k.rows 3 a ++ [j] else k.rows 3 a := by
  unfold nextK
  rcases Decidable.em (e.a = a) with h | h
  · subst h
    repeat' split
    all_goals simp_all [pushK, oneK, ownK, updN, updI]
  · have h' : ¬ a = e.a := fun q => h q.symm
    repeat' split
    all_goals simp_all [pushK, oneK, ownK, updN, updI]
theorem nextK_o4 : (nextK k j e).ones 4 a = if e.who = a then some j else k.ones 4 a := by
  unfold nextK
  rcases Decidable.em (e.who = a) with h | h
  · subst h
    repeat' split
    all_goals simp_all [pushK, oneK, ownK, updN, updI]
  · have h' : ¬ a = e.who := fun q => h q.symm
    repeat' split
    all_goals simp_all [pushK, oneK, ownK, updN, updI]
theorem nextK_o5 : (nextK k j e).ones 5 a = if e.op = 14 ∧ 0 < e.v ∧ e.v = a then some j else k.ones 5 a := by
  unfold nextK
  rcases Decidable.em (e.v = a) with h | h
  · subst h
    repeat' split
    all_goals simp_all [pushK, oneK, ownK, updN, updI]
  · have h' : ¬ a = e.v := fun q => h q.symm
    repeat' split
    all_goals simp_all [pushK, oneK, ownK, updN, updI]
theorem nextK_o6 : (nextK k j e).ones 6 a = if e.op = 7 ∧ e.a = a ∧ (k.ones 6 a).isNone then some j else k.ones 6 a := by
  unfold nextK
  rcases Decidable.em (e.a = a) with h | h
  · subst h
    repeat' split
    all_goals simp_all [pushK, oneK, ownK, updN, updI]
  · have h' : ¬ a = e.a := fun q => h q.symm
    repeat' split
    all_goals simp_all [pushK, oneK, ownK, updN, updI]
end
section
variable (E : Nat → Ev) (a : Int)
theorem lk_r0 : ∀ j, (lkN E j).rows 0 a = natL (pickL (isSend E a) j)
  | 0 => rfl
  | j + 1 => by
    show (nextK (lkN E j) j (E j)).rows 0 a = _
    rw [nextK_r0, lk_r0 j, pickL_succ, natL_append]
    by_cases h : (E j).op = 5 ∧ (E j).a = a
    · rw [if_pos h, if_pos (by simp [isSend, h])]; rfl
    · rw [if_neg h, if_neg (by simpa [isSend] using h)]; simp [natL]
theorem lk_r1 : ∀ j, (lkN E j).rows 1 a = natL (pickL (isTake E a) j)
  | 0 => rfl
  | j + 1 => by
    show (nextK (lkN E j) j (E j)).rows 1 a = _
    rw [nextK_r1, lk_r1 j, pickL_succ, natL_append]
    by_cases h : (E j).op = 6 ∧ (E j).sh = false ∧ (E j).a = a
    · rw [if_pos h, if_pos (by simp [isTake, h])]; rfl
    · rw [if_neg h, if_neg (by simp only [isTake, Bool.and_eq_true, decide_eq_true_eq, Bool.not_eq_true']; exact fun q => h ⟨q.1, q.2.2, q.2.1⟩)]; simp [natL]
theorem lk_r3 : ∀ j, (lkN E j).rows 3 a = natL (pickL (isAdd E a) j)
  | 0 => rfl
  | j + 1 => by
    show (nextK (lkN E j) j (E j)).rows 3 a = _
    rw [nextK_r3, lk_r3 j, pickL_succ, natL_append]
    by_cases h : (E j).op = 10 ∧ (E j).a = a
    · rw [if_pos h, if_pos (by simp [isAdd, h])]; rfl
    · rw [if_neg h, if_neg (by simpa [isAdd] using h)]; simp [natL]
theorem aftN_le : ∀ j, aftN E a j ≤ j
  | 0 => Nat.le_refl _
  | j + 1 => by
    have := aftN_le j
    unfold aftN
    split <;> omega
theorem freeL_none (m j : Nat) (h : j ≤ m) : freeL E a m j = [] := by
  unfold freeL pickL
  rw [List.filter_eq_nil_iff]
  intro i hi
  have := List.mem_range.1 hi
  simp
  omega
theorem lk_r2 : ∀ j, (lkN E j).rows 2 a = natL (freeL E a (aftN E a j) j)
  | 0 => rfl
  | j + 1 => by
    show (nextK (lkN E j) j (E j)).rows 2 a = _
    have h1 := aftN_le E a j
    rw [nextK_r2, lk_r2 j]
    by_cases h9 : (E j).op = 9 ∧ (E j).a = a
    · rw [if_pos h9]
      have e : aftN E a (j + 1) = aftN E a j := by
        show (if (E j).op = 8 ∧ (E j).a = a then j else aftN E a j) = _
        rw [if_neg (by omega)]
      rw [e]
      show _ = natL (pickL _ (j + 1))
      rw [pickL_succ, natL_append, if_pos (by simp [isFree, h9, h1])]
      rfl
    · rw [if_neg h9]
      have hn : ∀ m, freeL E a m (j + 1) = freeL E a m j := fun m => by
        show pickL _ (j + 1) = _
        rw [pickL_succ, if_neg (by simp only [isFree, Bool.and_eq_true, decide_eq_true_eq]; exact fun q => h9 q.1), List.append_nil]
        rfl
      rw [hn]
      by_cases h8 : (E j).op = 8 ∧ (E j).a = a
      · rw [if_pos h8]
        have e : aftN E a (j + 1) = j := by
          show (if (E j).op = 8 ∧ (E j).a = a then j else aftN E a j) = _
          rw [if_pos h8]
        rw [e, freeL_none E a j j (Nat.le_refl _)]
        rfl
      · rw [if_neg h8]
        have e : aftN E a (j + 1) = aftN E a j := by
          show (if (E j).op = 8 ∧ (E j).a = a then j else aftN E a j) = _
          rw [if_neg h8]
        rw [e]
theorem lk_o4 : ∀ j, (lkN E j).ones 4 a = lastN E a j
  | 0 => rfl
  | j + 1 => by
    show (nextK (lkN E j) j (E j)).ones 4 a = _
    rw [nextK_o4, lk_o4 j]; rfl
theorem lk_o5 : ∀ j, (lkN E j).ones 5 a = bornN E a j
  | 0 => rfl
  | j + 1 => by
    show (nextK (lkN E j) j (E j)).ones 5 a = _
    rw [nextK_o5, lk_o5 j]; rfl
theorem lk_o6 : ∀ j, (lkN E j).ones 6 a = shutN E a j
  | 0 => rfl
  | j + 1 => by
    show (nextK (lkN E j) j (E j)).ones 6 a = _
    rw [nextK_o6, lk_o6 j]; rfl
end
end Go.Proofs.Ytakmcpadkanggaa

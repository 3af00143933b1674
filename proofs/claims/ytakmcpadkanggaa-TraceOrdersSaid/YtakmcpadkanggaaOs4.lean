/-
  Part 4 of what this claim rests on.
-/
import Derived.Lib.SlicesCompact
import Derived.OrdersHeld
import Derived.Deep.DeepCutAuto
import Derived.Deep.LoopGhost
import Derived.Test.YtakmcpadkanggaaOs3
namespace Go.Proofs.Ytakmcpadkanggaa
open Go.RowKit Go.Maps Go.Deep
/-- What the links know: of sends (0), takes (1), frees (2), adds (3) the rows; the last event (4), the start (5), the close (6). -/
structure Lk where
  rows : Nat → Int → List Int
  ones : Nat → Int → Option Int
def lk0 : Lk := ⟨fun _ _ => [], fun _ _ => none⟩
/-- Nothing, or one number. -/
def ownL (k : Lk) (who : Int) : List Int := match k.ones 4 who with | some i => [i] | none => match k.ones 5 who with | some i => [i] | none => []
def ownK (k : Lk) (who j : Int) : Lk := ⟨k.rows, updN k.ones 4 (updI (k.ones 4) who (some j))⟩
/-- Sorted, each once. -/
def scL (xs : List Int) : List Int := Lib.compact (xs.mergeSort fun x y => decide (x ≤ y))
/-- The row that next gathers; rm: the rooms. -/
def nextR (k : Lk) (rm : Int → Int) (e : Ev) : List Int :=
  ownL k e.who ++ (if e.op = 5 then (if 1 ≤ ((k.rows 0 e.a).length + 1 : Nat) - rm e.a ∧ ((k.rows 0 e.a).length + 1 : Nat) - rm e.a ≤ ((k.rows 1 e.a).length : Nat) then [(k.rows 1 e.a).getD (((k.rows 0 e.a).length + 1 : Nat) - rm e.a - 1).toNat 0] else [])
    else if e.op = 6 then (if e.sh then [(k.ones 6 e.a).getD 0] else [(k.rows 0 e.a).getD (k.rows 1 e.a).length 0])
    else if e.op = 8 then k.rows 2 e.a else if e.op = 11 then k.rows 3 e.a else [])
def pushK (k : Lk) (i : Nat) (a y : Int) : Lk := ⟨updN k.rows i (updI (k.rows i) a (k.rows i a ++ [y])), k.ones⟩
def oneK (k : Lk) (i : Nat) (a y : Int) : Lk := ⟨k.rows, updN k.ones i (updI (k.ones i) a (some y))⟩
/-- What next leaves behind. -/
def nextK (k : Lk) (j : Int) (e : Ev) : Lk :=
  if e.op = 14 then (if 0 < e.v then oneK (ownK k e.who j) 5 e.v j else ownK k e.who j)
  else if e.op = 5 then pushK (ownK k e.who j) 0 e.a j
  else if e.op = 6 then (if e.sh then ownK k e.who j else pushK (ownK k e.who j) 1 e.a j)
  else if e.op = 7 then (if (k.ones 6 e.a).isSome then ownK k e.who j else oneK (ownK k e.who j) 6 e.a j)
  else if e.op = 9 then pushK (ownK k e.who j) 2 e.a j
  else if e.op = 8 then ⟨updN (ownK k e.who j).rows 2 (updI ((ownK k e.who j).rows 2) e.a []), (ownK k e.who j).ones⟩
  else if e.op = 10 then pushK (ownK k e.who j) 3 e.a j
  else ownK k e.who j
theorem ss_ext : ∀ {xs ys : List Int}, xs.Pairwise (· < ·) → ys.Pairwise (· < ·) → (∀ x, x ∈ xs ↔ x ∈ ys) → xs = ys
  | [], [], _, _, _ => rfl
  | [], y :: ys, _, _, h => absurd ((h y).2 (by simp)) (by simp)
  | x :: xs, [], _, _, h => absurd ((h x).1 (by simp)) (by simp)
  | x :: xs, y :: ys, h1, h2, h => by
    rw [List.pairwise_cons] at h1 h2
    have e : x = y := by
      rcases List.mem_cons.1 ((h x).1 (by simp)) with e | e
      · exact e
      · rcases List.mem_cons.1 ((h y).2 (by simp)) with e' | e'
        · exact e'.symm
        · have := h1.1 y e'
          have := h2.1 x e
          omega
    subst e
    congr 1
    refine ss_ext h1.2 h2.2 fun z => ⟨fun hz => ?_, fun hz => ?_⟩
    · rcases List.mem_cons.1 ((h z).1 (by simp [hz])) with e | e
      · have := h1.1 z hz; omega
      · exact e
    · rcases List.mem_cons.1 ((h z).2 (by simp [hz])) with e | e
      · have := h2.1 z hz; omega
      · exact e
theorem compactUpTo_law (d : Array Int) (hd : ∀ i j, i ≤ j → j < d.size → d[i]! ≤ d[j]!) : ∀ m, m ≤ d.size → (Lib.compactUpTo d m).Pairwise (· < ·) ∧ ∀ x, x ∈ Lib.compactUpTo d m ↔ ∃ i, i < m ∧ d[i]! = x
  | 0, _ => by simp [Lib.compactUpTo]
  | m + 1, hm => by
    obtain ⟨h1, h2⟩ := compactUpTo_law d hd m (by omega)
    rw [Lib.compactUpTo_succ]
    by_cases hk : Lib.keeps d m = true
    · rw [if_pos hk]
      refine ⟨List.pairwise_append.2 ⟨h1, by simp, fun x hx y hy => ?_⟩, fun x => ?_⟩
      · obtain rfl : y = d[m]! := by simpa using hy
        obtain ⟨i, hi, rfl⟩ := (h2 x).1 hx
        have a1 := hd i (m - 1) (by omega) (by omega)
        have a2 := hd (m - 1) m (by omega) (by omega)
        have a3 : d[m]! ≠ d[m - 1]! := fun e => by
          rw [Lib.keeps_neg (by omega) e] at hk
          cases hk
        omega
      · rw [List.mem_append, h2]
        simp only [List.mem_singleton]
        constructor
        · rintro (⟨i, hi, e⟩ | e)
          · exact ⟨i, by omega, e⟩
          · exact ⟨m, by omega, e.symm⟩
        · rintro ⟨i, hi, e⟩
          by_cases him : i = m
          · subst him; exact .inr e.symm
          · exact .inl ⟨i, by omega, e⟩
    · rw [if_neg hk, List.append_nil]
      refine ⟨h1, fun x => ?_⟩
      rw [h2]
      have hm0 : m ≠ 0 := fun e => by subst e; exact hk (Lib.keeps_lt_one d 0 (by omega))
      have he : d[m]! = d[m - 1]! := by
        by_cases e : d[m]! = d[m - 1]!
        · exact e
        · exact absurd (Lib.keeps_pos e) hk
      constructor
      · rintro ⟨i, hi, e⟩; exact ⟨i, by omega, e⟩
      · rintro ⟨i, hi, e⟩
        by_cases him : i = m
        · subst him; exact ⟨i - 1, by omega, by rw [← he]; exact e⟩
        · exact ⟨i, by omega, e⟩
theorem sc_law (xs : List Int) : (scL xs).Pairwise (· < ·) ∧ ∀ x, x ∈ scL xs ↔ x ∈ xs := by
  have hp := List.mergeSort_perm xs (fun x y : Int => decide (x ≤ y))
  have hs : (xs.mergeSort fun x y : Int => decide (x ≤ y)).Pairwise (fun a b => decide (a ≤ b) = true) := List.pairwise_mergeSort (fun a b c h1 h2 => by simp only [decide_eq_true_eq] at *; omega) (fun a b => by simp only [Bool.or_eq_true, decide_eq_true_eq]; omega) xs
  unfold scL Lib.compact
  generalize (xs.mergeSort fun x y : Int => decide (x ≤ y)) = zs at hp hs
  have hd : ∀ i j, i ≤ j → j < zs.toArray.size → zs.toArray[i]! ≤ zs.toArray[j]! := fun i j hij hj => by
    have hj' : j < zs.length := by simpa using hj
    rw [getElem!_pos zs.toArray i (by simp; omega), getElem!_pos zs.toArray j hj]
    simp only [List.getElem_toArray]
    rcases Nat.lt_or_ge i j with h | h
    · simpa using List.pairwise_iff_getElem.1 hs i j (by omega) hj' h
    · obtain rfl : i = j := by omega
      exact Int.le_refl _
  obtain ⟨h1, h2⟩ := compactUpTo_law zs.toArray hd zs.length (by simp)
  refine ⟨h1, fun x => ?_⟩
  rw [h2, ← hp.mem_iff]
  constructor
  · rintro ⟨i, hi, e⟩
    rw [getElem!_pos zs.toArray i (by simpa using hi)] at e
    rw [← e]
    simp
  · intro hx
    obtain ⟨i, hi, e⟩ := List.getElem_of_mem hx
    exact ⟨i, hi, by rw [getElem!_pos zs.toArray i (by simpa using hi)]; simpa using e⟩
theorem sc_eq {xs zs : List Int} (h : zs.Pairwise (· < ·)) (hm : ∀ x, x ∈ zs ↔ x ∈ xs) : zs = scL xs := ss_ext h (sc_law xs).1 fun x => by rw [hm, (sc_law xs).2]
def pickL (p : Nat → Bool) (j : Nat) : List Nat := (List.range j).filter p
theorem pickL_succ (p : Nat → Bool) (j : Nat) : pickL p (j + 1) = pickL p j ++ if p j then [j] else [] := by
  unfold pickL
  rw [List.range_succ, List.filter_append]
  congr 1
  cases h : p j <;> simp [h]
theorem pickL_prefix (p : Nat → Bool) : ∀ k j, k ≤ j → pickL p k <+: pickL p j
  | k, 0, h => by obtain rfl : k = 0 := by omega
                  exact List.prefix_rfl
  | k, j + 1, h => by
    by_cases e : k = j + 1
    · subst e; exact List.prefix_rfl
    · exact (pickL_prefix p k j (by omega)).trans (by rw [pickL_succ]; exact List.prefix_append _ _)
theorem pickL_at (p : Nat → Bool) {k j : Nat} (hk : k < j) (hp : p k = true) : (pickL p j)[(pickL p k).length]? = some k := by
  obtain ⟨t, ht⟩ := pickL_prefix p (k + 1) j hk
  rw [← ht, pickL_succ, if_pos hp, List.append_assoc, List.getElem?_append_right (Nat.le_refl _), Nat.sub_self]
  rfl
theorem pickL_length (p : Nat → Bool) (j : Nat) : (pickL p j).length ≤ j := by
  have := List.length_filter_le p (List.range j)
  simpa [pickL] using this
theorem pickL_mem (p : Nat → Bool) (j i : Nat) : i ∈ pickL p j ↔ i < j ∧ p i = true := by simp [pickL]
def natL (l : List Nat) : List Int := l.map Int.ofNat
theorem natL_append (l m : List Nat) : natL (l ++ m) = natL l ++ natL m := by simp [natL]
theorem natL_length (l : List Nat) : (natL l).length = l.length := by simp [natL]
def isSend (E : Nat → Ev) (a : Int) (i : Nat) : Bool := decide ((E i).op = 5) && decide ((E i).a = a)
def isTake (E : Nat → Ev) (a : Int) (i : Nat) : Bool := decide ((E i).op = 6) && (decide ((E i).a = a) && !(E i).sh)
def isFree (E : Nat → Ev) (a : Int) (i : Nat) : Bool := decide ((E i).op = 9) && decide ((E i).a = a)
def isAdd (E : Nat → Ev) (a : Int) (i : Nat) : Bool := decide ((E i).op = 10) && decide ((E i).a = a)
/-- The last lock of a ahead of j; 0: none. -/
def aftN (E : Nat → Ev) (a : Int) : Nat → Nat
  | 0 => 0
  | j + 1 => if (E j).op = 8 ∧ (E j).a = a then j else aftN E a j
def freeL (E : Nat → Ev) (a : Int) (m j : Nat) : List Nat := pickL (fun i => isFree E a i && decide (m ≤ i)) j
def lastN (E : Nat → Ev) (who : Int) : Nat → Option Int
  | 0 => none
  | j + 1 => if (E j).who = who then some (j : Int) else lastN E who j
def bornN (E : Nat → Ev) (who : Int) : Nat → Option Int
  | 0 => none
  | j + 1 => if (E j).op = 14 ∧ 0 < (E j).v ∧ (E j).v = who then some (j : Int) else bornN E who j
def shutN (E : Nat → Ev) (a : Int) : Nat → Option Int
  | 0 => none
  | j + 1 => if (E j).op = 7 ∧ (E j).a = a ∧ (shutN E a j).isNone then some (j : Int) else shutN E a j
/-- What the links know behind j events. -/
def lkN (E : Nat → Ev) : Nat → Lk
  | 0 => lk0
  | j + 1 => nextK (lkN E j) (j : Int) (E j)
/-- From where edges lead to event j. -/
def intoL (E : Nat → Ev) (rm : Int → Int) (j : Nat) : List Int := scL (nextR (lkN E j) rm (E j))
section
variable (k : Lk) (j : Int) (e : Ev) (a : Int)
theorem nextK_r0 : (nextK k j e).rows 0 a = if e.op = 5 ∧ e.a = a then k.rows 0 a ++ [j] else k.rows 0 a := by
  unfold nextK
  rcases Decidable.em (e.a = a) with h | h
  · subst h
    repeat' split
    all_goals simp_all [pushK, oneK, ownK, updN, updI]
  · have h' : ¬ a = e.a := fun q => h q.symm
    repeat' split
    all_goals simp_all [pushK, oneK, ownK, updN, updI]
theorem nextK_r1 : (nextK k j e).rows 1 a = if e.op = 6 ∧ e.sh = false ∧ e.a = a then k.rows 1 a ++ [j] else k.rows 1 a := by
  unfold nextK
  rcases Decidable.em (e.a = a) with h | h
  · subst h
    repeat' split
    all_goals simp_all [pushK, oneK, ownK, updN, updI]
  · have h' : ¬ a = e.a := fun q => h q.symm
    repeat' split
    all_goals simp_all [pushK, oneK, ownK, updN, updI]
theorem nextK_r2 : (nextK k j e).rows 2 a = if e.op = 9 ∧ e.a = a then k.rows 2 a ++ [j] else if e.op = 8 ∧ e.a = a then [] else k.rows 2 a := by
  unfold nextK
  rcases Decidable.em (e.a = a) with h | h
  · subst h
    repeat' split
    all_goals simp_all [pushK, oneK, ownK, updN, updI]
  · have h' : ¬ a = e.a := fun q => h q.symm
    repeat' split
    all_goals simp_all [pushK, oneK, ownK, updN, updI]
theorem nextK_r3 : (nextK k j e).rows 3 a = if e.op = 10 ∧ e.a = a then k.rows 3 a ++ [j] else k.rows 3 a := by
  unfold nextK
  rcases Decidable.em (e.a = a) with h | h
  · subst h
    repeat' split
    all_goals simp_all [pushK, oneK, ownK, updN, updI]
  · have h' : ¬ a = e.a := fun q => h q.symm
    repeat' split
    all_goals simp_all [pushK, oneK, ownK, updN, updI]
theorem nextK_o4 : (nextK k j e).ones 4 a = if e.who = a then some j else k.ones 4 a := by
  unfold nextK
  rcases Decidable.em (e.who = a) with h | h
  · subst h
    repeat' split
    all_goals simp_all [pushK, oneK, ownK, updN, updI]
  · have h' : ¬ a = e.who := fun q => h q.symm
    repeat' split
    all_goals simp_all [pushK, oneK, ownK, updN, updI]
theorem nextK_o5 : (nextK k j e).ones 5 a = if e.op = 14 ∧ 0 < e.v ∧ e.v = a then some j else k.ones 5 a := by
  unfold nextK
  rcases Decidable.em (e.v = a) with h | h
  · subst h
    repeat' split
    all_goals simp_all [pushK, oneK, ownK, updN, updI]
  · have h' : ¬ a = e.v := fun q => h q.symm
    repeat' split
    all_goals simp_all [pushK, oneK, ownK, updN, updI]
theorem nextK_o6 : (nextK k j e).ones 6 a = if e.op = 7 ∧ e.a = a ∧ (k.ones 6 a).isNone then some j else k.ones 6 a := by
  unfold nextK
  rcases Decidable.em (e.a = a) with h | h
  · subst h
    repeat' split
    all_goals simp_all [pushK, oneK, ownK, updN, updI]
  · have h' : ¬ a = e.a := fun q => h q.symm
    repeat' split
    all_goals simp_all [pushK, oneK, ownK, updN, updI]
end
section
variable (E : Nat → Ev) (a : Int)
theorem lk_r0 : ∀ j, (lkN E j).rows 0 a = natL (pickL (isSend E a) j)
  | 0 => rfl
  | j + 1 => by
    show (nextK (lkN E j) j (E j)).rows 0 a = _
    rw [nextK_r0, lk_r0 j, pickL_succ, natL_append]
    by_cases h : (E j).op = 5 ∧ (E j).a = a
    · rw [if_pos h, if_pos (by simp [isSend, h])]; rfl
    · rw [if_neg h, if_neg (by simpa [isSend] using h)]; simp [natL]
theorem lk_r1 : ∀ j, (lkN E j).rows 1 a = natL (pickL (isTake E a) j)
  | 0 => rfl
  | j + 1 => by
    show (nextK (lkN E j) j (E j)).rows 1 a = _
    rw [nextK_r1, lk_r1 j, pickL_succ, natL_append]
    by_cases h : (E j).op = 6 ∧ (E j).sh = false ∧ (E j).a = a
    · rw [if_pos h, if_pos (by simp [isTake, h])]; rfl
    · rw [if_neg h, if_neg (by simp only [isTake, Bool.and_eq_true, decide_eq_true_eq, Bool.not_eq_true']; exact fun q => h ⟨q.1, q.2.2, q.2.1⟩)]; simp [natL]
theorem lk_r3 : ∀ j, (lkN E j).rows 3 a = natL (pickL (isAdd E a) j)
  | 0 => rfl
  | j + 1 => by
    show (nextK (lkN E j) j (E j)).rows 3 a = _
    rw [nextK_r3, lk_r3 j, pickL_succ, natL_append]
    by_cases h : (E j).op = 10 ∧ (E j).a = a
    · rw [if_pos h, if_pos (by simp [isAdd, h])]; rfl
    · rw [if_neg h, if_neg (by simpa [isAdd] using h)]; simp [natL]
theorem aftN_le : ∀ j, aftN E a j ≤ j
  | 0 => Nat.le_refl _
  | j + 1 => by
    have := aftN_le j
    unfold aftN
    split <;> omega
theorem freeL_none (m j : Nat) (h : j ≤ m) : freeL E a m j = [] := by
  unfold freeL pickL
  rw [List.filter_eq_nil_iff]
  intro i hi
  have := List.mem_range.1 hi
  simp
  omega
theorem lk_r2 : ∀ j, (lkN E j).rows 2 a = natL (freeL E a (aftN E a j) j)
  | 0 => rfl
  | j + 1 => by
    show (nextK (lkN E j) j (E j)).rows 2 a = _
    have h1 := aftN_le E a j
    rw [nextK_r2, lk_r2 j]
    by_cases h9 : (E j).op = 9 ∧ (E j).a = a
    · rw [if_pos h9]
      have e : aftN E a (j + 1) = aftN E a j := by
        show (if (E j).op = 8 ∧ (E j).a = a then j else aftN E a j) = _
        rw [if_neg (by omega)]
      rw [e]
      show _ = natL (pickL _ (j + 1))
      rw [pickL_succ, natL_append, if_pos (by simp [isFree, h9, h1])]
      rfl
    · rw [if_neg h9]
      have hn : ∀ m, freeL E a m (j + 1) = freeL E a m j := fun m => by
        show pickL _ (j + 1) = _
        rw [pickL_succ, if_neg (by simp only [isFree, Bool.and_eq_true, decide_eq_true_eq]; exact fun q => h9 q.1), List.append_nil]
        rfl
      rw [hn]
      by_cases h8 : (E j).op = 8 ∧ (E j).a = a
      · rw [if_pos h8]
        have e : aftN E a (j + 1) = j := by
          show (if (E j).op = 8 ∧ (E j).a = a then j else aftN E a j) = _
          rw [if_pos h8]
        rw [e, freeL_none E a j j (Nat.le_refl _)]
        rfl
      · rw [if_neg h8]
        have e : aftN E a (j + 1) = aftN E a j := by
          show (if (E j).op = 8 ∧ (E j).a = a then j else aftN E a j) = _
          rw [if_neg h8]
        rw [e]
theorem lk_o4 : ∀ j, (lkN E j).ones 4 a = lastN E a j
  | 0 => rfl
  | j + 1 => by
    show (nextK (lkN E j) j (E j)).ones 4 a = _
    rw [nextK_o4, lk_o4 j]; rfl
theorem lk_o5 : ∀ j, (lkN E j).ones 5 a = bornN E a j
  | 0 => rfl
  | j + 1 => by
    show (nextK (lkN E j) j (E j)).ones 5 a = _
    rw [nextK_o5, lk_o5 j]; rfl
theorem lk_o6 : ∀ j, (lkN E j).ones 6 a = shutN E a j
  | 0 => rfl
  | j + 1 => by
    show (nextK (lkN E j) j (E j)).ones 6 a = _
    rw [nextK_o6, lk_o6 j]; rfl
end
end Go.Proofs.Ytakmcpadkanggaa
namespace Go.Proofs.Ytakmcpadkanggaa
open Go.RowKit
section
variable {P : Program} {ops : Array Oper} {md : Region.Mode} {Q : Exit → Act → World → Prop} {S : World → Prop}
/-- Operations taken first: each yields one value in every world of the class. -/
def wpTake (P : Program) (ops : Array Oper) (S : World → Prop) (K : Act → Prop) : List Oper → Act → Prop
  | [], a => K a
  | o :: r, a => (Region.wanted o (yielded ops a.tmps) = true ∧ ∃ v, (∀ w, S w → (execOp a.eval o).run P w = .ok (.value v) w) ∧ wpTake P ops S K r (a.put o.dst v)) ∨
      (Region.wanted o (yielded ops a.tmps) = false ∧ wpTake P ops S K r (a.put o.dst undef))
def segQ (md : Region.Mode) (ops : Array Oper) : List Nat → Array Bool → Array Bool → Bool
  | [], listed, L' => listed == L'
  | i :: r, listed, L' => (Region.ready md ops listed).contains i && Region.free md ops listed i && segQ md ops r (listed.setIfInBounds i true) L'
theorem seg_take (hsel : Region.noSelect ops = true) (hQ : ∀ o ∈ ops.toList, ∀ c v a w, Q (.panic c) (a.put (Oper.dst o) v) w → Q (.panic c) a w) {fuel : Nat} {L' : Array Bool} {w : World} (hS : S w) :
    ∀ (is : List Nat) (l : List Oper) (listed : Array Bool) (a : Act), is.map (fun i => ops[i]?) = l.map some → segQ md ops is listed L' = true →
    wpTake P ops S (fun a' => wpAnyH P md ops Q S fuel L' a' w) l a → wpAnyH P md ops Q S (l.length + fuel) listed a w
  | [], l, listed, a, hl, hB, h => by
    cases l with
    | nil =>
      simp only [segQ, beq_iff_eq] at hB
      subst hB
      rw [List.length_nil, Nat.zero_add]
      exact h
    | cons _ _ => simp at hl
  | i :: is, l, listed, a, hl, hB, h => by
    cases l with
    | nil => simp at hl
    | cons o l =>
      simp only [List.map_cons, List.cons.injEq] at hl
      obtain ⟨hi, hl⟩ := hl
      simp only [segQ, Bool.and_eq_true] at hB
      obtain ⟨⟨hr, hf⟩, hB⟩ := hB
      have ho : o ∈ ops.toList := by
        obtain ⟨hlt, he⟩ := Array.getElem?_eq_some_iff.1 hi
        rw [← he]; simp
      rw [List.length_cons, show l.length + 1 + fuel = (l.length + fuel) + 1 from by omega]
      rcases h with ⟨hw, v, hv, h⟩ | ⟨hw, h⟩
      · exact wpAnyH_take hi hsel hf hr (fun c a w => hQ o ho c v a w) (Or.inl ⟨hw, hv⟩) hS (seg_take hsel hQ hS is l _ _ hl hB h)
      · exact wpAnyH_take hi hsel hf hr (fun c a w => hQ o ho c undef a w) (Or.inr ⟨hw, rfl⟩) hS (seg_take hsel hQ hS is l _ _ hl hB h)
/-- Behind an operation that came up alone. -/
def Back (P : Program) (md : Region.Mode) (ops : Array Oper) (Q : Exit → Act → World → Prop) (S : World → Prop) (fuel : Nat) (L' : Array Bool) : Exit → Act → World → Prop
  | .normal, a, w => S w ∧ wpAnyH P md ops Q S fuel L' a w
  | e, a, w => Q e a w
theorem wp_back {fuel : Nat} {L' : Array Bool} {o : Oper} {a : Act} {w : World} {K : Act → World → Prop} (hh : o.wp P a w K (Back P md ops Q S fuel L')) : o.wp P a w K Q := by
  unfold Oper.wp at *
  generalize (execOp a.eval o).run P w = r at *
  cases r with
  | ok n w' =>
    cases n <;> simp only [Oper.upon] at hh ⊢ <;>
      first
        | exact hh
        | exact Calls.mono hh (fun e w'' he => by cases e <;> exact he)
  | halt x w' => cases x <;> simp only [Oper.upon] at hh ⊢ <;> exact hh
theorem seg_sole {fuel : Nat} {listed : Array Bool} {a : Act} {w : World} (i : Nat) (L' : Array Bool) {o : Oper} (hi : ops[i]? = some o) (hr : (Region.ready md ops listed == [i] && listed.setIfInBounds i true == L') = true)
    (h : wpList P ops (Back P md ops Q S fuel L') [o] a w) : wpAnyH P md ops Q S (fuel + 1) listed a w := by
  simp only [Bool.and_eq_true, beq_iff_eq] at hr
  obtain ⟨hr, hL⟩ := hr
  refine wpAnyH_all hr (by simp) fun j hj => ?_
  obtain rfl : j = i := by simpa using hj
  rw [hL]
  unfold wpList at h
  unfold wpOp
  simp only [hi]
  split
  · rename_i hw
    rw [if_pos hw] at h
    refine h.imp (fun h => wp_back (Oper.wp_mono (fun a w hk => ?_) h)) id
    exact hk
  · rename_i hw
    rw [if_neg hw] at h
    exact h
/-- Two may come up next. -/
theorem seg_two {fuel : Nat} {listed : Array Bool} {a : Act} {w : World} (i j : Nat) (Li Lj : Array Bool) {oi oj : Oper} (hi : ops[i]? = some oi) (hj : ops[j]? = some oj) (hr : (Region.ready md ops listed == [i, j] && listed.setIfInBounds i true == Li && listed.setIfInBounds j true == Lj) = true)
    (h1 : wpList P ops (Back P md ops Q S fuel Li) [oi] a w) (h2 : wpList P ops (Back P md ops Q S fuel Lj) [oj] a w) : wpAnyH P md ops Q S (fuel + 1) listed a w := by
  simp only [Bool.and_eq_true, beq_iff_eq] at hr
  obtain ⟨⟨hr, hLi⟩, hLj⟩ := hr
  refine wpAnyH_all hr (by simp) fun k hk => ?_
  have key : ∀ (i : Nat) (Li : Array Bool) (oi : Oper), ops[i]? = some oi → listed.setIfInBounds i true = Li → wpList P ops (Back P md ops Q S fuel Li) [oi] a w → wpOp P ops Q i (fun a' w' => S w' ∧ wpAnyH P md ops Q S fuel (listed.setIfInBounds i true) a' w') a w := fun i Li oi hi hL h => by
    rw [hL]
    unfold wpList at h
    unfold wpOp
    simp only [hi]
    split
    · rename_i hw
      rw [if_pos hw] at h
      exact h.imp (fun h => wp_back (Oper.wp_mono (fun a w hk => hk) h)) id
    · rename_i hw
      rw [if_neg hw] at h
      exact h
  rcases List.mem_cons.1 hk with rfl | hk
  · exact key k Li oi hi hLi h1
  · obtain rfl : k = j := by simpa using hk
    exact key k Lj oj hj hLj h2
theorem back_intro {fuel : Nat} {L' : Array Bool} {a : Act} {w : World} (hS : S w) (h : wpAnyH P md ops Q S fuel L' a w) : wpList P ops (Back P md ops Q S fuel L') [] a w := ⟨hS, h⟩
theorem back_intro2 {fuel : Nat} {L' : Array Bool} {a : Act} {w : World} (hS : S w) (h : wpAnyH P md ops Q S fuel L' a w) : Back P md ops Q S fuel L' .normal a w := ⟨hS, h⟩
/-- Q, but no panic. -/
def NP (Q : Exit → Act → World → Prop) : Exit → Act → World → Prop
  | .panic _, _, _ => False
  | e, a, w => Q e a w
theorem NP.imp {Q : Exit → Act → World → Prop} : ∀ (e : Exit) (a : Act) (w : World), NP Q e a w → Q e a w := fun e a w h => by
  cases e <;> first | exact h | exact (h : False).elim
theorem seg_done {listed : Array Bool} {a : Act} {w : World} (hr : Region.ready md ops listed = []) (h : Q .normal a w) : wpAnyH P md ops (NP Q) S 0 listed a w := ⟨hr, h⟩
theorem take_done {md : Region.Mode} {Q : Exit → Act → World → Prop} {fuel : Nat} {L' : Array Bool} {a : Act} {w : World} (h : wpAnyH P md ops Q S fuel L' a w) : wpTake P ops S (fun a' => wpAnyH P md ops Q S fuel L' a' w) [] a := h
theorem take_pure {K : Act → Prop} {o : Oper} {r : List Oper} {a : Act} {v : Value} (hw : Region.wanted o (yielded ops a.tmps) = true) (hv : ∀ w, S w → (execOp a.eval o).run P w = .ok (.value v) w) (h : wpTake P ops S K r (a.put o.dst v)) : wpTake P ops S K (o :: r) a := .inl ⟨hw, v, hv, h⟩
theorem take_load {K : Act → Prop} {o : Oper} {r : List Oper} {a : Act} {g : Nat} {t ty : TypeId} {cs : Array Value} {x : Operand} {d : TypeDesc} (n : Nat) (_hd : o.dst = some n)
    (hw : Region.wanted o (yielded ops a.tmps) = true) (ho : o.op = .load ty x) (hx : a.eval x = .pointer (some ⟨g, 0, none⟩)) (hb : ∀ w, S w → Blk w g t cs)
    (hu : P.underlying ty = some d) (hd' : (match d with | .struct _ | .array _ _ => true | _ => false) = true) (hi : (P.info? ty).map (·.size) = some cs.size)
    (h : wpTake P ops S K r (a.put o.dst (.agg cs))) : wpTake P ops S K (o :: r) a :=
  take_pure hw (fun w hS => by
    unfold execOp
    simp only [ho, hx, Instr.loadAt, Instr.sureAddr, Sem.run_bind, Sem.run_pure, Result.andThen_ok, run_loadVar_row w g t ty cs (0, 0) d (hb w hS) hu hd' hi]) h
/-- The beginning. -/
theorem wp_held {id : Nat} {a : Act} {w : World} {l : List Oper} (n : Nat) (L0 : Array Bool) (hm : P.follows .mixedOrders = true) (hn : l.length = n) (hL : Array.replicate n false = L0) (h : wpAnyH P .any l.toArray (NP Q) S n L0 a w.drew) : (Code.region id l.toArray true).wp P Q a w :=
  Code.wp_mono NP.imp (wp_region_held hm (by subst hn; subst hL; simpa using h))
end
end Go.Proofs.Ytakmcpadkanggaa
namespace Go.Proofs.Ytakmcpadkanggaa
open Go.RowKit
section
variable {P : Program} {ops : Array Oper} {md : Region.Mode} {Q : Exit → Act → World → Prop} {S : World → Prop} {n : Nat} {L : Array Bool → Act → World → Prop}
/-- What is left to come up is among the first n; S holds behind each of them; then L. -/
def anyHL (P : Program) (md : Region.Mode) (ops : Array Oper) (Q : Exit → Act → World → Prop) (S : World → Prop) (n : Nat) (L : Array Bool → Act → World → Prop) : Nat → Array Bool → Act → World → Prop
  | 0, listed, a, w => L listed a w
  | f + 1, listed, a, w => Region.ready md ops listed ≠ [] ∧ ∀ i ∈ Region.ready md ops listed, i < n ∧ wpOp P ops Q i (fun a' w' => S w' ∧ anyHL P md ops Q S n L f (listed.setIfInBounds i true) a' w') a w
theorem any_of_headH {g : Nat} (hL : ∀ listed a w, L listed a w → wpAny P md ops Q g listed a w) :
    ∀ (f : Nat) (listed : Array Bool) (a : Act) (w : World), anyHL P md ops Q S n L f listed a w → wpAny P md ops Q (f + g) listed a w
  | 0, listed, a, w, h => by rw [Nat.zero_add]; exact hL _ _ _ h
  | f + 1, listed, a, w, h => by
    rw [show f + 1 + g = (f + g) + 1 by omega]
    exact ⟨fun h0 => absurd h0 h.1, fun i hi => wpOp_mono (fun a' w' h' => any_of_headH hL f _ a' w' h'.2) (h.2 i hi).2⟩
theorem anyHL_first {i : Nat} {oi : Oper} {v : Value} (hi : ops[i]? = some oi) (hsel : ∀ (j : Nat) (o : Oper) cs b, ops[j]? = some o → o.op ≠ .select cs b)
    (hQ : ∀ c a w, Q (.panic c) (a.put oi.dst v) w → Q (.panic c) a w)
    (hs : Region.sinkB md ops n = true) (hc : Region.chainB md ops n = true) (hn : n < ops.size) (hin : i < n)
    (hdone : ∀ listed a w, L listed a w → ∀ j ∈ Region.ready md ops listed, n ≤ j) :
    ∀ (f : Nat) (listed : Array Bool) (a : Act) (w : World), HeadInv md ops n listed →
      (∀ j oj, ops[j]? = some oj → j ≠ i → listed.getD j true = false → (∀ e ∈ oj.after, Region.binds md e = true → e.on ≠ i) → oi.apart ops oj = true) →
      i ∈ Region.ready md ops listed → YieldsIf P ops S oi v a → S w →
      anyHL P md ops Q S n L f (listed.setIfInBounds i true) (a.put oi.dst v) w → anyHL P md ops Q S n L (f + 1) listed a w := by
  intro f
  induction f with
  | zero =>
    intro listed a w inv _ hr hy hS H
    have hun := (mem_ready.1 hr).1
    refine ⟨fun h => (by rw [h] at hr; cases hr), fun j hj => ?_⟩
    have hjn : j < n := by
      rcases Nat.lt_or_ge j n with h | h
      · exact h
      · exact absurd hj (tail_waits hs hc hn inv _ i rfl hin hun j h)
    refine ⟨hjn, ?_⟩
    by_cases hji : j = i
    · subst hji; exact hy.wpOp hi hS ⟨hS, H⟩
    · have := hdone _ _ _ H j (ready_mono hj hji)
      omega
  | succ f ih =>
    intro listed a w inv hfree hr hy hS H
    have hun := (mem_ready.1 hr).1
    refine ⟨fun h => (by rw [h] at hr; cases hr), fun j hj => ?_⟩
    have hjn : j < n := by
      rcases Nat.lt_or_ge j n with h | h
      · exact h
      · exact absurd hj (tail_waits hs hc hn inv _ i rfl hin hun j h)
    refine ⟨hjn, ?_⟩
    by_cases hji : j = i
    · subst hji; exact hy.wpOp hi hS ⟨hS, H⟩
    · have h1 := (H.2 j (ready_mono hj hji)).2
      obtain ⟨hjun, oj, hoj, hall⟩ := mem_ready.1 hj
      have hnot : ∀ e ∈ oj.after, Region.binds md e = true → e.on ≠ i := fun e he hb heq => by
        have h1 := hall e he hb
        rw [heq, getD_both hun] at h1
        cases h1
      have h2 := wpOp_putIf hoj (hfree j oj hoj hji hjun hnot) (fun cs b => hsel i oi cs b hi) (fun cs b => hsel j oj cs b hoj) hQ hy h1
      have hfree' : ∀ k ok, ops[k]? = some ok → k ≠ i → (listed.setIfInBounds j true).getD k true = false →
          (∀ e ∈ ok.after, Region.binds md e = true → e.on ≠ i) → oi.apart ops ok = true := fun k ok hk hki hun hno => by
        refine hfree k ok hk hki ?_ hno
        by_cases hjk : j = k
        · subst hjk; exact hjun
        · rw [getD_set_ne true hjk] at hun; exact hun
      refine wpOp_mono (fun a' w' h3 => ⟨h3.2.1, ih (listed.setIfInBounds j true) a' w' (inv.set hj hjn) hfree' (ready_mono hr (Ne.symm hji)) h3.1 h3.2.1 ?_⟩) h2
      rw [Array.setIfInBounds_comm _ _ hji]
      exact h3.2.2
/-- The tail, and how much of the head is left. -/
def tailL (P : Program) (md : Region.Mode) (ops : Array Oper) (Q : Exit → Act → World → Prop) (n : Nat) (l : List Oper) (listed : Array Bool) (a : Act) (w : World) : Prop :=
  Region.seqB md ops l.length n listed = true ∧ wpList P ops Q l a w
def AH (P : Program) (ops : Array Oper) (Q : Exit → Act → World → Prop) (S : World → Prop) (n : Nat) (l : List Oper) (f : Nat) (listed : Array Bool) (a : Act) (w : World) : Prop :=
  Region.sinkB .any ops n = true → Region.chainB .any ops n = true → n < ops.size → Region.noSelect ops = true → HeadInv .any ops n listed → anyHL P .any ops (NP Q) S n (tailL P .any ops (NP Q) n l) f listed a w
theorem ah_take {l : List Oper} {L' : Array Bool} {w : World} (hS : S w) {f : Nat} :
    ∀ (is : List Nat) (os : List Oper) (listed : Array Bool) (a : Act), is.map (fun i => ops[i]?) = os.map some → is.all (fun i => decide (i < n)) = true → segQ .any ops is listed L' = true →
    wpTake P ops S (fun a' => AH P ops Q S n l f L' a' w) os a → AH P ops Q S n l (os.length + f) listed a w
  | [], os, listed, a, hl, _, hB, h => by
    cases os with
    | nil =>
      simp only [segQ, beq_iff_eq] at hB
      subst hB
      rw [List.length_nil, Nat.zero_add]
      exact h
    | cons _ _ => simp at hl
  | i :: is, os, listed, a, hl, hin, hB, h => by
    cases os with
    | nil => simp at hl
    | cons o os =>
      simp only [List.map_cons, List.cons.injEq] at hl
      obtain ⟨hi, hl⟩ := hl
      simp only [List.all_cons, Bool.and_eq_true, decide_eq_true_eq] at hin
      simp only [segQ, Bool.and_eq_true] at hB
      obtain ⟨⟨hr, hf⟩, hB⟩ := hB
      have hr' : i ∈ Region.ready .any ops listed := by simpa using hr
      intro hs hc hn hsel inv
      rw [List.length_cons, show os.length + 1 + f = (os.length + f) + 1 from by omega]
      have key : ∀ v, YieldsIf P ops S o v a → wpTake P ops S (fun a' => AH P ops Q S n l f L' a' w) os (a.put o.dst v) → anyHL P .any ops (NP Q) S n (tailL P .any ops (NP Q) n l) (os.length + f + 1) listed a w := fun v hy h =>
        anyHL_first hi (Region.noSelect_spec hsel) (fun _ _ _ h => h) hs hc hn hin.1 (fun listed' a' w' hL => seqB_ready hL.1) _ listed a w inv (Region.free_spec hi hf) hr' hy hS
          (ah_take hS is os _ _ hl hin.2 hB h hs hc hn hsel (inv.set hr' hin.1))
      rcases h with ⟨hw, v, hv, h⟩ | ⟨hw, h⟩
      · exact key v (.inl ⟨hw, hv⟩) h
      · exact key undef (.inr ⟨hw, rfl⟩) h
/-- Behind an operation that came up alone. -/
def BackA (P : Program) (ops : Array Oper) (Q : Exit → Act → World → Prop) (S : World → Prop) (n : Nat) (l : List Oper) (f : Nat) (L' : Array Bool) : Exit → Act → World → Prop
  | .normal, a, w => S w ∧ AH P ops Q S n l f L' a w
  | e, a, w => NP Q e a w
theorem wp_backA {l : List Oper} {f : Nat} {L' : Array Bool} {o : Oper} {a : Act} {w : World} {K : Act → World → Prop} (hh : o.wp P a w K (BackA P ops Q S n l f L')) : o.wp P a w K (NP Q) := by
  unfold Oper.wp at *
  generalize (execOp a.eval o).run P w = r at *
  cases r with
  | ok n w' =>
    cases n <;> simp only [Oper.upon] at hh ⊢ <;>
      first
        | exact hh
        | exact Calls.mono hh (fun e w'' he => by cases e <;> exact he)
  | halt x w' => cases x <;> simp only [Oper.upon] at hh ⊢ <;> exact hh
theorem ah_sole {l : List Oper} {f : Nat} {listed : Array Bool} {a : Act} {w : World} (i : Nat) (L' : Array Bool) {o : Oper} (hi : ops[i]? = some o) (hin : i < n) (hr : (Region.ready .any ops listed == [i] && listed.setIfInBounds i true == L') = true)
    (h : wpList P ops (BackA P ops Q S n l f L') [o] a w) : AH P ops Q S n l (f + 1) listed a w := by
  simp only [Bool.and_eq_true, beq_iff_eq] at hr
  obtain ⟨hr, hL⟩ := hr
  intro hs hc hn hsel inv
  refine ⟨by rw [hr]; simp, fun j hj => ?_⟩
  have hj' := hj
  rw [hr] at hj'
  obtain rfl : j = i := by simpa using hj'
  refine ⟨hin, ?_⟩
  rw [hL]
  have inv' := inv.set hj hin
  rw [hL] at inv'
  unfold wpList at h
  unfold wpOp
  simp only [hi]
  split
  · rename_i hw
    rw [if_pos hw] at h
    exact h.imp (fun h => wp_backA (Oper.wp_mono (fun a w hk => ⟨hk.1, hk.2 hs hc hn hsel inv'⟩) h)) id
  · rename_i hw
    rw [if_neg hw] at h
    exact ⟨h.1, h.2 hs hc hn hsel inv'⟩
theorem backA_intro {l : List Oper} {f : Nat} {L' : Array Bool} {a : Act} {w : World} (hS : S w) (h : AH P ops Q S n l f L' a w) : wpList P ops (BackA P ops Q S n l f L') [] a w := ⟨hS, h⟩
theorem backA_intro2 {l : List Oper} {f : Nat} {L' : Array Bool} {a : Act} {w : World} (hS : S w) (h : AH P ops Q S n l f L' a w) : BackA P ops Q S n l f L' .normal a w := ⟨hS, h⟩
theorem takeA_done {l : List Oper} {f : Nat} {L' : Array Bool} {a : Act} {w : World} (h : AH P ops Q S n l f L' a w) : wpTake P ops S (fun a' => AH P ops Q S n l f L' a' w) [] a := h
/-- The head is done. -/
theorem ah_tail {l : List Oper} {listed : Array Bool} {a : Act} {w : World} (hq : Region.seqB .any ops l.length n listed = true) (h : wpList P ops (NP Q) l a w) : AH P ops Q S n l 0 listed a w :=
  fun _ _ _ _ _ => ⟨hq, h⟩
theorem np_intro {a : Act} {w : World} (h : Q .normal a w) : NP Q .normal a w := h
def headOk (ops : Array Oper) (n : Nat) : Bool := Region.noSelect ops && (decide (n < ops.size) && (Region.sinkB .any ops n && Region.chainB .any ops n))
/-- The beginning. -/
theorem wp_headH {id : Nat} {a : Act} {w : World} {l : List Oper} (n : Nat) (hm : P.follows .mixedOrders = true) (hB : headOk l.toArray n = true)
    (h : AH P l.toArray Q S n (l.drop n) n (Array.replicate l.length false) a w.drew) : (Code.region id l.toArray true).wp P Q a w := by
  simp only [headOk, Bool.and_eq_true, decide_eq_true_eq] at hB
  obtain ⟨hsel, hn, hs, hc⟩ := hB
  have inv0 : HeadInv .any l.toArray n (Array.replicate l.length false) :=
    ⟨by simp, fun j oj _ hl => (by rw [getD_replicate_false] at hl; cases hl), fun t _ ht => getD_in (by simpa using ht) (getD_replicate_false _ _)⟩
  have H := h hs hc hn hsel inv0
  refine Code.wp_mono NP.imp (wp_region_any hm ?_)
  have hn' : n < l.length := by simpa using hn
  have hdl : (l.drop n).length = l.toArray.size - n := by simp
  have := any_of_headH (g := l.toArray.size - n) (fun listed a' w' hL => by
    have := wpAny_of_seq (md := .any) (Q' := NP Q) (l.drop n) n listed a' w' (fun j => by simp [List.getElem?_drop]) (by rw [hdl]; rw [← hdl]; exact hL.1) hL.2
    rwa [hdl] at this) _ _ _ _ H
  rw [show n + (l.toArray.size - n) = l.toArray.size by omega] at this
  simpa using this
end
end Go.Proofs.Ytakmcpadkanggaa
namespace Go.Proofs.Ytakmcpadkanggaa
open Go.RowKit Go.Maps Go.Deep
section
variable {w : World}
def NotIn (xs : List Int) (x : Int) (k : Nat) : Prop := ∀ j, j < k → xs.getD j 0 ≠ x
theorem notIn_end {xs : List Int} {x : Int} (h : NotIn xs x xs.length) : decide (x ∈ xs) = false := by
  refine decide_eq_false fun hm => ?_
  obtain ⟨j, hj, e⟩ := List.getElem_of_mem hm
  exact h j hj (by rw [List.getD_eq_getElem?_getD, List.getElem?_eq_getElem hj]; exact e)
theorem in_at {xs : List Int} {x : Int} {k : Nat} (hk : k < xs.length) (h : xs.getD k 0 = x) : decide (x ∈ xs) = true := by
  refine decide_eq_true ?_
  rw [← h, List.getD_eq_getElem?_getD, List.getElem?_eq_getElem hk]
  exact List.getElem_mem hk
set_option maxRecDepth 100000 in
theorem within_any (v : Value) (xs : List Int) (x : Int) (b : Bool) (hn : xs.length ≤ 5000000) (hI : IntL w v xs) (hb : decide (x ∈ xs) = b) : Calls Try.prog 82 #[v, .int .i64 x] w fun e w' => e = .returned (.bool b) ∧ w = w' := by
  obtain ⟨A, c, rfl, hx⟩ := hI
  obtain ⟨m, hl⟩ : ∃ m, xs.length = m := ⟨_, rfl⟩
  have HX := Lib.hid hx
  have HB := Lib.hid hb
  have HL := Lib.hid hl
  rw [hl] at hn ⊢
  clear hx hb hl
  go_enter Try.func82, Try.ntmps82
  go_wp2
  go_loop [5] (fun i => ∃ k : Nat, k ≤ m ∧ i = .int .i64 k ∧ NotIn xs x k) (fun i => m - (intOf i).toNat)
  case atStart => exact ⟨0, by omega, rfl, fun j hj => by omega⟩
  case round =>
    obtain ⟨k, hk, rfl, hN⟩ := hrel
    by_cases hlt : k < m
    · have g1 : ((k : Int)) < m := by omega
      have g0 : (0 : Int) ≤ k := by omega
      have HK := Lib.hid (show k < xs.length by rw [HL.out]; exact hlt)
      obtain ⟨ad, rfl, _, hc⟩ := HX.out (by have := HK.out; omega)
      have c1 := hc k HK.out
      have HN := Lib.hid hN
      clear hc hN
      by_cases he : xs.getD k 0 = x
      · have HT := Lib.hid (HB.out.symm.trans (in_at HK.out he))
        rw [he] at c1
        clear he
        go_wp2
        go_ret
        exact ⟨by rw [HT.out]; rfl, rfl⟩
      · have HE := Lib.hid he
        have e1 : (xs.getD k 0 == x) = false := by simpa using he
        clear he
        obtain ⟨y, hy⟩ : ∃ y, y = xs.getD k 0 := ⟨_, rfl⟩
        rw [← hy] at c1 e1
        have HY := Lib.hid hy
        clear hy
        go_wp2
        clear c1 e1
        go_round
        case rel => exact ⟨k + 1, by omega, by go_num, fun j hj => by
          by_cases e : j = k
          · rw [e]; exact HE.out
          · exact HN.out j (by omega)⟩
        case measure => (simp [intOf] <;> omega)
    · obtain rfl : k = m := by omega
      have HT := Lib.hid (HB.out.symm.trans (notIn_end (by rw [HL.out]; exact hN)))
      clear hN
      go_wp2
      go_ret
      exact ⟨by rw [HT.out]; rfl, rfl⟩
end
/-- The answer of nth. -/
def nthV (p : Nat → Bool) (j m : Nat) : Int := match (pickL p j)[m]? with | some i => (i : Int) | none => -1
section
variable {w : World} {n : Nat} {E : Nat → Ev} {B : Option Addr} {cb : Nat}
set_option maxRecDepth 100000 in
set_option maxHeartbeats 1000000 in
theorem nth_5 (hE : EvsAt w B n E) (hn : n ≤ 40000) (j : Nat) (hj : j ≤ n) (q : Int) (m : Nat) (hm : m ≤ 1000000) : Calls Try.prog 97 #[.slice B n cb, .int .i64 (j : Int), .int .i64 5, .int .i64 q, .int .i64 (m : Int)] w fun e w' => e = .returned (.int .i64 (nthV (isSend E q) j m)) ∧ w = w' := by
  have HE := Lib.hid hE
  clear hE
  go_enter Try.func97, Try.ntmps97
  go_wp2
  go_loop [11, 4] (fun i x => ∃ k r : Nat, k ≤ j ∧ r + (pickL (isSend E q) k).length = m ∧ i = .int .i64 k ∧ x = .int .i64 r) (fun i _ => j - (intOf i).toNat)
  case atStart => exact ⟨0, m, by omega, by simp [pickL], rfl, rfl⟩
  case round =>
    obtain ⟨k, r, hk, hr, rfl, rfl⟩ := hrel
    have HR := Lib.hid hr
    have hrm : r ≤ m := by omega
    clear hr
    by_cases hlt : k < j
    · have g1 : ((k : Int)) < j := by omega
      have g2 : ((k : Int)) < n := by omega
      have g0 : (0 : Int) ≤ k := by omega
      obtain ⟨ad, rfl, hc⟩ := EvsAt.row (u := w) HE.out (show k < n by omega)
      have c1 : w.cell? ⟨(ad.add (k * 5)).block, (ad.add (k * 5)).off + 1, none⟩ = some (.int .i64 (E k).op) := hc [] w (Keeps.refl _ _) (by simp) 1 (by show 1 < 5; omega)
      have c2 : w.cell? ⟨(ad.add (k * 5)).block, (ad.add (k * 5)).off + 2, none⟩ = some (.int .i64 (E k).a) := hc [] w (Keeps.refl _ _) (by simp) 2 (by show 2 < 5; omega)
      have c4 : w.cell? ⟨(ad.add (k * 5)).block, (ad.add (k * 5)).off + 4, none⟩ = some (.bool (E k).sh) := hc [] w (Keeps.refl _ _) (by simp) 4 (by show 4 < 5; omega)
      clear hc
      by_cases ho : (E k).op = 5
      · by_cases ha : (E k).a = q
        · rw [ho] at c1
          rw [ha] at c2
          have hp : isSend E q k = true := by simp [isSend, ho, ha]
          clear ho ha
          by_cases h0 : r = 0
          · have HV := Lib.hid (show nthV (isSend E q) j m = (k : Int) by
              have h1 := pickL_at (isSend E q) hlt hp
              have h2 := HR.out
              rw [h0, Nat.zero_add] at h2
              unfold nthV
              rw [← h2, h1])
            subst h0
            clear hp
            go_wp2_with (first | go_big_skip)
            go_ret
            exact ⟨by rw [HV.out]; rfl, rfl⟩
          · have g4 : ¬ ((r : Int) = 0) := by omega
            have g5 : ((r : Int) == 0) = false := by simpa using g4
            have HN := Lib.hid (show (pickL (isSend E q) (k + 1)).length = (pickL (isSend E q) k).length + 1 by rw [pickL_succ, if_pos hp]; simp)
            have g6 : (1 : Int) ≤ r := by omega
            clear hp
            go_wp2_with (first | go_big_skip)
            clear c1 c2 c4 g4 g5
            go_round
            case rel => exact ⟨k + 1, r - 1, by omega, by rw [HN.out]; have := HR.out; omega, by go_num, by congr 1; omega⟩
            case measure => (simp [intOf] <;> omega)
        · have HN := Lib.hid (show (pickL (isSend E q) (k + 1)).length = (pickL (isSend E q) k).length by rw [pickL_succ, if_neg (by simp [isSend, ha]), List.append_nil])
          rw [ho] at c1
          have ea : ((E k).a == q) = false := by simpa using ha
          clear ho ha
          generalize (E k).a = a at c2 ea
          generalize (E k).sh = sh at c4
          go_wp2_with (first | go_big_skip)
          clear c1 c2 c4
          go_round
          case rel => exact ⟨k + 1, r, by omega, by rw [HN.out]; exact HR.out, by go_num, rfl⟩
          case measure => (simp [intOf] <;> omega)
      · have HN := Lib.hid (show (pickL (isSend E q) (k + 1)).length = (pickL (isSend E q) k).length by rw [pickL_succ, if_neg (by simp [isSend, ho]), List.append_nil])
        have ea : ((E k).op == 5) = false := by simpa using ho
        clear ho
        generalize (E k).op = op at c1 ea
        generalize (E k).a = a at c2
        generalize (E k).sh = sh at c4
        go_wp2_with (first | go_big_skip)
        clear c1 c2 c4
        go_round
        case rel => exact ⟨k + 1, r, by omega, by rw [HN.out]; exact HR.out, by go_num, rfl⟩
        case measure => (simp [intOf] <;> omega)
    · obtain rfl : k = j := by omega
      have HV := Lib.hid (show nthV (isSend E q) k m = -1 by
        unfold nthV
        rw [List.getElem?_eq_none (by have := HR.out; omega)])
      go_wp2
      go_ret
      exact ⟨by rw [HV.out]; rfl, rfl⟩
set_option maxRecDepth 100000 in
set_option maxHeartbeats 1000000 in
theorem nth_6 (hE : EvsAt w B n E) (hn : n ≤ 40000) (j : Nat) (hj : j ≤ n) (q : Int) (m : Nat) (hm : m ≤ 1000000) : Calls Try.prog 97 #[.slice B n cb, .int .i64 (j : Int), .int .i64 6, .int .i64 q, .int .i64 (m : Int)] w fun e w' => e = .returned (.int .i64 (nthV (isTake E q) j m)) ∧ w = w' := by
  have HE := Lib.hid hE
  clear hE
  go_enter Try.func97, Try.ntmps97
  go_wp2
  go_loop [11, 4] (fun i x => ∃ k r : Nat, k ≤ j ∧ r + (pickL (isTake E q) k).length = m ∧ i = .int .i64 k ∧ x = .int .i64 r) (fun i _ => j - (intOf i).toNat)
  case atStart => exact ⟨0, m, by omega, by simp [pickL], rfl, rfl⟩
  case round =>
    obtain ⟨k, r, hk, hr, rfl, rfl⟩ := hrel
    have HR := Lib.hid hr
    have hrm : r ≤ m := by omega
    clear hr
    by_cases hlt : k < j
    · have g1 : ((k : Int)) < j := by omega
      have g2 : ((k : Int)) < n := by omega
      have g0 : (0 : Int) ≤ k := by omega
      obtain ⟨ad, rfl, hc⟩ := EvsAt.row (u := w) HE.out (show k < n by omega)
      have c1 : w.cell? ⟨(ad.add (k * 5)).block, (ad.add (k * 5)).off + 1, none⟩ = some (.int .i64 (E k).op) := hc [] w (Keeps.refl _ _) (by simp) 1 (by show 1 < 5; omega)
      have c2 : w.cell? ⟨(ad.add (k * 5)).block, (ad.add (k * 5)).off + 2, none⟩ = some (.int .i64 (E k).a) := hc [] w (Keeps.refl _ _) (by simp) 2 (by show 2 < 5; omega)
      have c4 : w.cell? ⟨(ad.add (k * 5)).block, (ad.add (k * 5)).off + 4, none⟩ = some (.bool (E k).sh) := hc [] w (Keeps.refl _ _) (by simp) 4 (by show 4 < 5; omega)
      clear hc
      by_cases ho : (E k).op = 6
      · by_cases ha : (E k).a = q
        · rw [ho] at c1
          rw [ha] at c2
          cases hs : (E k).sh with
          | true =>
            rw [hs] at c4
            have HN := Lib.hid (show (pickL (isTake E q) (k + 1)).length = (pickL (isTake E q) k).length by rw [pickL_succ, if_neg (by simp [isTake, hs]), List.append_nil])
            clear ho ha hs
            go_wp2_with (first | go_big_skip)
            clear c1 c2 c4
            go_round
            case rel => exact ⟨k + 1, r, by omega, by rw [HN.out]; exact HR.out, by go_num, rfl⟩
            case measure => (simp [intOf] <;> omega)
          | false =>
            rw [hs] at c4
            have hp : isTake E q k = true := by simp [isTake, ho, ha, hs]
            clear ho ha hs
            by_cases h0 : r = 0
            · have HV := Lib.hid (show nthV (isTake E q) j m = (k : Int) by
                have h1 := pickL_at (isTake E q) hlt hp
                have h2 := HR.out
                rw [h0, Nat.zero_add] at h2
                unfold nthV
                rw [← h2, h1])
              subst h0
              clear hp
              go_wp2_with (first | go_big_skip)
              go_ret
              exact ⟨by rw [HV.out]; rfl, rfl⟩
            · have g4 : ¬ ((r : Int) = 0) := by omega
              have g5 : ((r : Int) == 0) = false := by simpa using g4
              have HN := Lib.hid (show (pickL (isTake E q) (k + 1)).length = (pickL (isTake E q) k).length + 1 by rw [pickL_succ, if_pos hp]; simp)
              have g6 : (1 : Int) ≤ r := by omega
              clear hp
              go_wp2_with (first | go_big_skip)
              clear c1 c2 c4 g4 g5
              go_round
              case rel => exact ⟨k + 1, r - 1, by omega, by rw [HN.out]; have := HR.out; omega, by go_num, by congr 1; omega⟩
              case measure => (simp [intOf] <;> omega)
        · have HN := Lib.hid (show (pickL (isTake E q) (k + 1)).length = (pickL (isTake E q) k).length by rw [pickL_succ, if_neg (by simp [isTake, ha]), List.append_nil])
          rw [ho] at c1
          have ea : ((E k).a == q) = false := by simpa using ha
          clear ho ha
          generalize (E k).a = a at c2 ea
          generalize (E k).sh = sh at c4
          go_wp2_with (first | go_big_skip)
          clear c1 c2 c4
          go_round
          case rel => exact ⟨k + 1, r, by omega, by rw [HN.out]; exact HR.out, by go_num, rfl⟩
          case measure => (simp [intOf] <;> omega)
      · have HN := Lib.hid (show (pickL (isTake E q) (k + 1)).length = (pickL (isTake E q) k).length by rw [pickL_succ, if_neg (by simp [isTake, ho]), List.append_nil])
        have ea : ((E k).op == 6) = false := by simpa using ho
        clear ho
        generalize (E k).op = op at c1 ea
        generalize (E k).a = a at c2
        generalize (E k).sh = sh at c4
        go_wp2_with (first | go_big_skip)
        clear c1 c2 c4
        go_round
        case rel => exact ⟨k + 1, r, by omega, by rw [HN.out]; exact HR.out, by go_num, rfl⟩
        case measure => (simp [intOf] <;> omega)
    · obtain rfl : k = j := by omega
      have HV := Lib.hid (show nthV (isTake E q) k m = -1 by
        unfold nthV
        rw [List.getElem?_eq_none (by have := HR.out; omega)])
      go_wp2
      go_ret
      exact ⟨by rw [HV.out]; rfl, rfl⟩
end
def insAt (ys : List Int) (x : Int) (p : Nat) : List Int := ys.take p ++ x :: ys.drop p
theorem insAt_length (ys : List Int) (x : Int) (p : Nat) (h : p ≤ ys.length) : (insAt ys x p).length = ys.length + 1 := by simp [insAt]; omega
theorem insAt_end (ys : List Int) (x : Int) : insAt ys x ys.length = ys ++ [x] := by simp [insAt]
theorem insAt_here (ys : List Int) (x : Int) (p : Nat) (h : p ≤ ys.length) : (insAt ys x p).getD p 0 = x := by
  unfold insAt
  rw [List.getD_eq_getElem?_getD, List.getElem?_append_right (by simp; omega)]
  simp [Nat.min_eq_left h]
theorem insAt_ahead (ys : List Int) (x : Int) (p q : Nat) (h : q < p) (hp : p ≤ ys.length) : (insAt ys x p).getD q 0 = ys.getD q 0 := by
  unfold insAt
  rw [List.getD_eq_getElem?_getD, List.getElem?_append_left (by simp; omega), List.getElem?_take, if_pos h, List.getD_eq_getElem?_getD]
theorem insAt_swap (ys : List Int) (x : Int) (p : Nat) (h : p < ys.length) : ((insAt ys x (p + 1)).set (p + 1) (ys.getD p 0)).set p x = insAt ys x p := by
  apply List.ext_getElem?
  intro j
  have hl : (insAt ys x (p + 1)).length = ys.length + 1 := insAt_length _ _ _ h
  rw [List.getElem?_set, List.getElem?_set]
  simp only [List.length_set, hl]
  unfold insAt
  by_cases e : p = j
  · subst e
    rw [if_pos rfl, if_pos (by omega), List.getElem?_append_right (by simp; omega)]
    simp [Nat.min_eq_left (Nat.le_of_lt h)]
  · rw [if_neg e]
    by_cases e2 : p + 1 = j
    · subst e2
      rw [if_pos rfl, if_pos (by omega), List.getElem?_append_right (by simp; omega)]
      simp [Nat.min_eq_left (Nat.le_of_lt h), show p + 1 - p = 1 by omega, List.getD_eq_getElem?_getD, h]
    · rw [if_neg e2]
      rcases Nat.lt_or_ge j p with hj | hj
      · rw [List.getElem?_append_left (by simp; omega), List.getElem?_append_left (by simp; omega), List.getElem?_take, List.getElem?_take, if_pos (by omega), if_pos hj]
      · rw [List.getElem?_append_right (by simp; omega), List.getElem?_append_right (by simp; omega)]
        simp only [List.length_take, Nat.min_eq_left (show p + 1 ≤ ys.length by omega), Nat.min_eq_left (Nat.le_of_lt h)]
        obtain ⟨r, rfl⟩ : ∃ r, j = p + 2 + r := ⟨j - (p + 2), by omega⟩
        rw [show p + 2 + r - (p + 1) = r + 1 by omega, show p + 2 + r - p = (r + 1) + 1 by omega, List.getElem?_cons_succ, List.getElem?_cons_succ, List.getElem?_drop, List.getElem?_drop]
        congr 1
        omega
/-- Strictly rising, and just those of xs from 0 on. -/
def Rose (ys xs : List Int) : Prop := ys.Pairwise (· < ·) ∧ (∀ x, x ∈ ys ↔ x ∈ xs ∧ 0 ≤ x) ∧ ys.length ≤ xs.length
theorem Rose.nil : Rose [] [] := ⟨List.Pairwise.nil, fun x => by simp, Nat.le_refl _⟩
theorem Rose.skip {ys xs : List Int} {x : Int} (h : Rose ys xs) (hx : x < 0 ∨ x ∈ ys) : Rose ys (xs ++ [x]) := by
  refine ⟨h.1, fun y => ?_, by simp; have := h.2.2; omega⟩
  rw [h.2.1, List.mem_append, List.mem_singleton]
  constructor
  · rintro ⟨a, b⟩; exact ⟨.inl a, b⟩
  · rintro ⟨a | rfl, b⟩
    · exact ⟨a, b⟩
    · rcases hx with hx | hx
      · omega
      · exact (h.2.1 y).1 hx
theorem Rose.put {ys xs : List Int} {x : Int} {p : Nat} (h : Rose ys xs) (hx : 0 ≤ x) (hn : x ∉ ys) (hp : p ≤ ys.length) (hhi : ∀ j, p ≤ j → j < ys.length → x < ys.getD j 0) (hlo : p = 0 ∨ ¬ x < ys.getD (p - 1) 0) : Rose (insAt ys x p) (xs ++ [x]) := by
  have hm : ∀ z, z ∈ insAt ys x p ↔ z ∈ ys ∨ z = x := fun z => by
    unfold insAt
    rw [List.mem_append, List.mem_cons]
    conv => rhs; rw [← List.take_append_drop p ys]
    rw [List.mem_append]
    constructor
    · rintro (a | a | a)
      · exact .inl (.inl a)
      · exact .inr a
      · exact .inl (.inr a)
    · rintro ((a | a) | a)
      · exact .inl a
      · exact .inr (.inr a)
      · exact .inr (.inl a)
  have hs := List.pairwise_iff_getElem.1 h.1
  refine ⟨?_, fun z => ?_, by rw [insAt_length _ _ _ hp]; have := h.2.2; simp; omega⟩
  · unfold insAt
    rw [List.pairwise_append]
    refine ⟨h.1.sublist (List.take_sublist _ _), ?_, ?_⟩
    · rw [List.pairwise_cons]
      refine ⟨fun z hz => ?_, h.1.sublist (List.drop_sublist _ _)⟩
      obtain ⟨j, hj, e⟩ := List.getElem_of_mem hz
      rw [List.getElem_drop] at e
      have hj' : p + j < ys.length := by simp at hj; omega
      have := hhi (p + j) (by omega) hj'
      rw [List.getD_eq_getElem?_getD, List.getElem?_eq_getElem hj', Option.getD_some, e] at this
      exact this
    · intro y hy z hz
      obtain ⟨i, hi, e⟩ := List.getElem_of_mem hy
      rw [List.getElem_take] at e
      have hi' : i < p ∧ i < ys.length := by simp only [List.length_take] at hi; omega
      rcases List.mem_cons.1 hz with rfl | hz
      · rcases hlo with h0 | h0
        · omega
        · rw [List.getD_eq_getElem?_getD, List.getElem?_eq_getElem (show p - 1 < ys.length by omega), Option.getD_some] at h0
          have hne : y ≠ z := fun e' => hn (by rw [← e', ← e]; exact List.getElem_mem _)
          rcases Nat.lt_or_ge i (p - 1) with hlt | hge
          · have := hs i (p - 1) (by omega) (by omega) hlt
            omega
          · obtain rfl : i = p - 1 := by omega
            omega
      · obtain ⟨j, hj, e2⟩ := List.getElem_of_mem hz
        rw [List.getElem_drop] at e2
        have hj' : p + j < ys.length := by simp at hj; omega
        have := hs i (p + j) hi'.2 hj' (by omega)
        omega
  · rw [hm, h.2.1, List.mem_append, List.mem_singleton]
    constructor
    · rintro (⟨a, b⟩ | rfl)
      · exact ⟨.inl a, b⟩
      · exact ⟨.inr rfl, hx⟩
    · rintro ⟨a | a, b⟩
      · exact .inl ⟨a, b⟩
      · exact .inr a
section
variable {ops : Array Oper} {rest : List Oper} {o : Oper} {a : Act} {w W : World} {Q : Exit → Act → World → Prop} {S : List Nat} {L : List Ent} {base : Nat} {v : Value} {xs : List Int}
theorem addr_zero_add (g p : Nat) : (some (Addr.add ⟨g, 0, none⟩ p)) = some (⟨g, p, none⟩ : Addr) := by
  by_cases h : p = 0
  · subst h; rfl
  · simp [Addr.add, h]
/-- A number of a row of one's own is written. -/
theorem mint_store (p : Nat) (x : Int) (ad : Addr) (n c : Nat) (y z : Operand) (O : Own w W S L) (M : Mint base W v xs) (hv : v = .slice (some ad) n c) (hp : p < xs.length) (hgd : o.guard = none) (hdst : o.dst = none) (ho : o.op = .store 3 y z) (hy : a.eval y = .pointer (some (ad.add p))) (hz : a.eval z = .int .i64 x)
    (hb : w.heap.size = base) (hL : ∀ q ∈ L, q.2.1 ≠ 3) (h : ∀ u, Own w u S L → Mint base u v (xs.set p x) → wpList Try.prog ops Q rest a u) : wpList Try.prog ops Q (o :: rest) a W := by
  obtain ⟨hl, ⟨rfl, _⟩ | ⟨g, cap, cur, rfl, hbg, hB, hle, hm, hs, ht⟩⟩ := M
  · cases hv
  · simp only [Value.slice.injEq, Option.some.injEq] at hv
    obtain ⟨rfl, rfl, rfl⟩ := hv
    have hpc : p < cur.size := by omega
    refine wpList_store_blk g p 3 cur (.int .i64 x) hgd hdst ho (by rw [hy, addr_zero_add]) hz hB hpc rfl rfl (by kernel_rfl) fun u K b => ?_
    refine h u ⟨O.keep.trans K (fun q hq hlt => ?_), fun q hq => (O.blk q hq).keeps K (fun hm => ?_), O.new, O.nd⟩ ?_
    · obtain rfl : q = g := by simpa using hq
      omega
    · obtain e : q.1 = g := by simpa using hm
      have h1 := O.blk q hq
      rw [e] at h1
      rw [Blk, hB] at h1
      injection h1 with h1
      injection h1 with _ h1 _
      exact hL q hq h1.symm
    · refine ⟨by simp, .inr ⟨g, cap, _, by simp, hbg, b, by simpa using hle, hm, by simpa using hs, ?_⟩⟩
      rw [Array.toList_setIfInBounds, List.take_set, List.length_set, ht, List.map_set]
end
def RisePost (w : World) (xs : List Int) (e : Ending) (W : World) : Prop := (∃ r ys, e = .returned r ∧ Mint w.heap.size W r ys ∧ Rose ys xs) ∧ Keeps w W []
section
variable {w : World}
theorem own_cellM {W : World} {base : Nat} {v : Value} {xs : List Int} {ad : Addr} {n c : Nat} (M : Mint base W v xs) (hv : v = .slice (some ad) n c) {j : Nat} (hj : j < xs.length) : W.cell? (ad.add j) = some (.int .i64 (xs.getD j 0)) := by
  obtain ⟨A, c', e, hx⟩ := M.list
  obtain ⟨ad', rfl, _, hc⟩ := hx (by omega)
  rw [hv] at e
  cases e
  exact hc j hj
theorem mint_shape {W : World} {base n : Nat} {v : Value} {xs : List Int} (M : Mint base W v xs) (hn : xs.length = n + 1) : ∃ ad c, v = .slice (some ad) (n + 1) c := by
  obtain ⟨A, c, e, hx⟩ := M.list
  obtain ⟨ad, rfl, _⟩ := hx (by omega)
  exact ⟨ad, c, by rw [e, hn]⟩
def Hi (ys : List Int) (x : Int) (p : Nat) : Prop := ∀ j, p ≤ j → j < ys.length → x < ys.getD j 0
theorem hi_end (ys : List Int) (x : Int) {n : Nat} (h : n = ys.length) : Hi ys x n := fun j h1 h2 => by omega
theorem hi_step {ys : List Int} {x : Int} {q : Nat} (h : Hi ys x (q + 1)) (hq : x < ys.getD q 0) : Hi ys x q := fun j h1 h2 => by
  by_cases e : j = q
  · rw [e]; exact hq
  · exact h j (by omega) h2
set_option maxRecDepth 100000 in
set_option maxHeartbeats 2000000 in
theorem rising_any (v0 : Value) (xs : List Int) (hn : xs.length ≤ 1000000) (hI : IntL w v0 xs) : Calls Try.prog 98 #[v0] w (RisePost w xs) := by
  obtain ⟨A, c0, rfl, hx⟩ := hI
  obtain ⟨m, hl⟩ : ∃ m, xs.length = m := ⟨_, rfl⟩
  have HX := Lib.hid hx
  have HL := Lib.hid hl
  rw [hl] at hn ⊢
  clear hx hl
  have O := Own.start w []
  go_enter Try.func98, Try.ntmps98
  go_wp2
  go_loopw [4, 3] (fun i v wr => ∃ (k : Nat) (ys : List Int), k ≤ m ∧ i = .int .i64 k ∧ Own w wr [] [] ∧ Mint w.heap.size wr v ys ∧ Rose ys (xs.take k)) (fun i _ _ => m - (intOf i).toNat)
  case atStart => exact ⟨0, [], by omega, rfl, O, Mint.nil _ _, by rw [List.take_zero]; exact Rose.nil⟩
  case round =>
    obtain ⟨k, ys, hk, rfl, O, M, hR⟩ := hrel
    have HR := Lib.hid hR
    clear hR
    by_cases hlt : k < m
    · have g1 : ((k : Int)) < m := by omega
      have g0 : (0 : Int) ≤ k := by omega
      have HKL := Lib.hid (show k < xs.length by rw [HL.out]; exact hlt)
      obtain ⟨ad0, rfl, hb0, hc0⟩ := HX.out (by have := HKL.out; omega)
      have c1 : wr.cell? (ad0.add k) = some (.int .i64 (xs.getD k 0)) := (O.keep.cellAt (by rw [add_block]; exact hb0) (by simp)).trans (hc0 k HKL.out)
      have HC0 := Lib.hid (And.intro hb0 hc0)
      have HT := Lib.hid (show xs.take (k + 1) = xs.take k ++ [xs.getD k 0] by
        rw [List.take_add_one, List.getElem?_eq_getElem HKL.out, List.getD_eq_getElem?_getD, List.getElem?_eq_getElem HKL.out]; rfl)
      have HYL := Lib.hid (show ys.length ≤ 1000000 by have := HR.out.2.2; rw [List.length_take] at this; omega)
      clear hb0 hc0
      generalize xs.getD k 0 = x at c1 HT HC0
      by_cases hx0 : x < 0
      · have e1 : decide (x < 0) = true := decide_eq_true hx0
        have HNX := Lib.hid (show Rose ys (xs.take (k + 1)) by rw [HT.out]; exact HR.out.skip (.inl hx0))
        clear HT HC0
        go_wp2_with (first | go_big_skip)
        clear c1 e1 hx0
        go_roundw
        case rel => exact ⟨k + 1, ys, by omega, by go_num, O, M, HNX.out⟩
        case measure => (simp [intOf] <;> omega)
      · have e1 : decide (x < 0) = false := decide_eq_false hx0
        have HX0 := Lib.hid (show 0 ≤ x by omega)
        by_cases hin : x ∈ ys
        · have HW := Lib.hid (show decide (x ∈ ys) = true from decide_eq_true hin)
          have HNX := Lib.hid (show Rose ys (xs.take (k + 1)) by rw [HT.out]; exact HR.out.skip (.inr hin))
          clear HT HC0 hin
          go_wp2_with (first
            | go_big_skip
            | (go_at_call 82; refine (within_any _ ys x true (by have := HYL.out; omega) M.list HW.out).mono ?_; rintro e w' ⟨rfl, rfl⟩))
          clear c1 e1 hx0
          go_roundw
          case rel => exact ⟨k + 1, ys, by omega, by go_num, O, M, HNX.out⟩
          case measure => (simp [intOf] <;> omega)
        · have HW := Lib.hid (show decide (x ∈ ys) = false from decide_eq_false hin)
          have HIN := Lib.hid hin
          obtain ⟨n, hnn⟩ : ∃ n, n = ys.length := ⟨_, rfl⟩
          have HNN := Lib.hid hnn
          have hn6 : n ≤ 1000000 := by have := HYL.out; omega
          clear hnn
          clear hin
          go_wp2_with (first
            | go_big_skip
            | (go_at_call 82; refine (within_any _ ys x false (by have := HYL.out; omega) M.list HW.out).mono ?_; rintro e w' ⟨rfl, rfl⟩)
            | (refine own_lit1 30 x O rfl rfl rfl rfl ?_; clear O c1; intro W gl O K1 hg; replace M := M.keeps K1 (by simp); clear K1 hg; simp only [Act.put, List.setIfInBounds_toArray, List.set_cons_zero, List.set_cons_succ])
            | (at_builtin; (refine own_app w.heap.size _ ys x gl (.tmp 25) (.tmp 30) (O.drop_ 1) M rfl rfl rfl rfl ((O.get 0 rfl).cell 0) rfl (by simp) (by have := HYL.out; omega) ?_; clear O M; intro v1 W O M; simp only [List.drop] at O; obtain ⟨ad, c, hv1⟩ := mint_shape (n := n) M (by simp; exact HNN.out.symm); subst hv1; simp only [Act.put, List.setIfInBounds_toArray, List.set_cons_zero, List.set_cons_succ])))
          clear e1 hx0
          rw [← insAt_end, ← HNN.out] at M
          go_loopw [5] (fun i wr => ∃ p : Nat, p ≤ n ∧ i = .int .i64 p ∧ Own w wr [] [] ∧ Mint w.heap.size wr (.slice (some ad) (n + 1) c) (insAt ys x p) ∧ Hi ys x p) (fun i _ => (intOf i).toNat)
          case atStart => exact ⟨n, Nat.le_refl _, by go_num, O, M, hi_end ys x HNN.out⟩
          case round =>
            obtain ⟨p, hp, rfl, O, M, hH⟩ := hrel
            have HH := Lib.hid hH
            clear hH
            rcases Nat.eq_zero_or_pos p with h0 | h0
            · subst h0
              have HNX := Lib.hid (show Rose (insAt ys x 0) (xs.take (k + 1)) by rw [HT.out]; exact HR.out.put HX0.out HIN.out (Nat.zero_le _) HH.out (.inl rfl))
              have e9 : ((0 : Nat) : Int) = 0 := rfl
              go_wp2
              refine wp_quiet_later (by kernel_rfl) (by kernel_rfl) ?_
              repeat (first
                | go_big_quiet_skip
                | go_big_quiet_step (fail))
              refine wpQuiet_nil ?_
              intro _ hw
              obtain ⟨p', rfl⟩ := hw
              replace O := O.keeps p'.2
              replace M := M.keeps p'.2 (by simp)
              clear e9
              generalize p'.1 = W at O M ⊢
              go_wp2
              go_roundw
              case rel => exact ⟨k + 1, _, by omega, by go_num, O, M, HNX.out⟩
              case measure => (simp [intOf] <;> omega)
            · obtain ⟨q, hq⟩ : ∃ q, p = q + 1 := ⟨p - 1, by omega⟩
              have HQ := Lib.hid hq
              have HLI := Lib.hid (insAt_length ys x p (by have := HNN.out; omega))
              have HVp := Lib.hid (insAt_here ys x p (by have := HNN.out; omega))
              have HVq := Lib.hid (insAt_ahead ys x p q (by omega) (by have := HNN.out; omega))
              have g1 : (0 : Int) < p := by omega
              have g2 : (p : Int) < ((n + 1 : Nat) : Int) := by omega
              have g3 : (q : Int) < ((n + 1 : Nat) : Int) := by omega
              have g4 : (0 : Int) ≤ q := by omega
              have g12 : (p : Int) < (n : Int) + 1 := by omega
              have g13 : (q : Int) < (n : Int) + 1 := by omega
              have g5 : (0 : Int) ≤ p := by omega
              have g6 : decide (0 < p) = true := decide_eq_true (by omega)
              have r1 : IntKind.i64.wrap ((p : Int) - 1) = (q : Int) := by
                rw [show (p : Int) - 1 = (q : Int) by omega]
                exact IntWalk.i64_in _ (by have := HYL.out; have := HNN.out; omega)
              have cp : ∀ z : Later wr, z.1.cell? (ad.add p) = some (.int .i64 x) := fun z => by
                rw [own_cellM (M.keeps z.2 (by simp)) rfl (j := p) (by rw [HLI.out]; have := HNN.out; omega), HVp.out]
              have cq : ∀ z : Later wr, z.1.cell? (ad.add q) = some (.int .i64 (ys.getD q 0)) := fun z => by
                rw [own_cellM (M.keeps z.2 (by simp)) rfl (j := q) (by rw [HLI.out]; have := HNN.out; omega), HVq.out]
              obtain ⟨y, hy⟩ : ∃ y, y = ys.getD q 0 := ⟨_, rfl⟩
              rw [← hy] at cq
              have HY := Lib.hid hy
              have hpn : p ≤ 1000001 := by have := HYL.out; have := HNN.out; omega
              clear hq hy h0
              by_cases hxy : x < y
              · have g7 : decide (x < y) = true := decide_eq_true hxy
                have HXY := Lib.hid hxy
                clear hxy
                go_wp2
                refine wp_quiet_later (by kernel_rfl) (by kernel_rfl) ?_
                repeat (first
                  | go_big_quiet_skip
                  | go_big_quiet_step (fail))
                refine wpQuiet_nil ?_
                intro _ hw
                obtain ⟨p', rfl⟩ := hw
                replace O := O.keeps p'.2
                replace M := M.keeps p'.2 (by simp)
                clear cp cq
                generalize p'.1 = W at O M ⊢
                go_wp2
                refine wp_held (S := fun _ => True) 18 #[false, false, false, false, false, false, false, false, false, false, false, false, false, false, false, false, false, false] (by kernel_rfl) rfl rfl ?_
                replace O := O.drew
                replace M := M.keeps (Keeps.refl _ []).drew (by simp)
                refine seg_take (fuel := 6) (L' := #[true, true, true, true, true, true, true, true, true, false, true, true, true, false, false, false, false, false]) (by kernel_rfl) (fun _ _ _ _ _ _ h => h) True.intro [0, 1, 2, 3, 4, 5, 6, 7, 8, 10, 11, 12] [_, _, _, _, _, _, _, _, _, _, _, _] _ _ rfl (by kernel_rfl) ?_
                simp only [List.getElem_toArray, List.getElem_cons_zero, List.getElem_cons_succ]
                repeat (first
                  | (refine take_pure (v := ?_) (by rfl) ?_ ?_; rotate_left; (· (intro w hSw; clear hSw; go_simp; try with_reducible rfl)); simp only [Act.put, List.setIfInBounds_toArray, List.set_cons_zero, List.set_cons_succ]))
                refine take_done ?_
                have cp : W.drew.cell? (ad.add p) = some (.int .i64 x) := by rw [own_cellM M rfl (j := p) (by rw [HLI.out]; have := HNN.out; omega), HVp.out]
                have cq : W.drew.cell? (ad.add q) = some (.int .i64 y) := by rw [own_cellM M rfl (j := q) (by rw [HLI.out]; have := HNN.out; omega), HVq.out, HY.out]
                refine seg_two 9 13 #[true, true, true, true, true, true, true, true, true, true, true, true, true, false, false, false, false, false] #[true, true, true, true, true, true, true, true, true, false, true, true, true, true, false, false, false, false] rfl rfl (by kernel_rfl) ?_ ?_
                · try simp only [List.getElem_toArray, List.getElem_cons_zero, List.getElem_cons_succ]
                  go_wp2
                  (first | refine back_intro2 True.intro ?_ | refine back_intro True.intro ?_)
                  refine seg_sole 13 #[true, true, true, true, true, true, true, true, true, true, true, true, true, true, false, false, false, false] rfl (by kernel_rfl) ?_
                  try simp only [List.getElem_toArray, List.getElem_cons_zero, List.getElem_cons_succ]
                  go_wp2
                  (first | refine back_intro2 True.intro ?_ | refine back_intro True.intro ?_)
                  clear cp cq
                  refine seg_sole 14 #[true, true, true, true, true, true, true, true, true, true, true, true, true, true, true, false, false, false] rfl (by kernel_rfl) ?_
                  try simp only [List.getElem_toArray, List.getElem_cons_zero, List.getElem_cons_succ]
                  go_wp2
                  (first | refine back_intro2 True.intro ?_ | refine back_intro True.intro ?_)
                  refine seg_sole 15 #[true, true, true, true, true, true, true, true, true, true, true, true, true, true, true, true, false, false] rfl (by kernel_rfl) ?_
                  try simp only [List.getElem_toArray, List.getElem_cons_zero, List.getElem_cons_succ]
                  go_wp2_with (refine mint_store p y ad (n + 1) c (.tmp 65) (.tmp 60) O M rfl (by rw [HLI.out]; have := HNN.out; omega) rfl rfl rfl rfl rfl rfl (by simp) ?_; clear O M; intro W O M)
                  (first | refine back_intro2 True.intro ?_ | refine back_intro True.intro ?_)
                  refine seg_sole 16 #[true, true, true, true, true, true, true, true, true, true, true, true, true, true, true, true, true, false] rfl (by kernel_rfl) ?_
                  try simp only [List.getElem_toArray, List.getElem_cons_zero, List.getElem_cons_succ]
                  go_wp2
                  (first | refine back_intro2 True.intro ?_ | refine back_intro True.intro ?_)
                  refine seg_sole 17 #[true, true, true, true, true, true, true, true, true, true, true, true, true, true, true, true, true, true] rfl (by kernel_rfl) ?_
                  try simp only [List.getElem_toArray, List.getElem_cons_zero, List.getElem_cons_succ]
                  go_wp2_with (refine mint_store q x ad (n + 1) c (.tmp 66) (.tmp 64) O M rfl (by rw [List.length_set, HLI.out]; have := HNN.out; have := HQ.out; omega) rfl rfl rfl rfl rfl rfl (by simp) ?_; clear O M; intro W O M)
                  (first | refine back_intro2 True.intro ?_ | refine back_intro True.intro ?_)
                  refine seg_done (by kernel_rfl) ?_
                  go_wp2
                  clear g6 g7
                  go_roundw
                  case rel => exact ⟨q, by have := HQ.out; omega, rfl, O, by have := insAt_swap ys x q (by have := HNN.out; have := HQ.out; omega); rw [← HQ.out, ← HY.out] at this; rw [← this]; exact M, hi_step (by have := HH.out; rwa [HQ.out] at this) (by rw [← HY.out]; exact HXY.out)⟩
                  case measure => (simp [intOf]; have := HQ.out; omega)
                · try simp only [List.getElem_toArray, List.getElem_cons_zero, List.getElem_cons_succ]
                  go_wp2
                  (first | refine back_intro2 True.intro ?_ | refine back_intro True.intro ?_)
                  refine seg_sole 9 #[true, true, true, true, true, true, true, true, true, true, true, true, true, true, false, false, false, false] rfl (by kernel_rfl) ?_
                  try simp only [List.getElem_toArray, List.getElem_cons_zero, List.getElem_cons_succ]
                  go_wp2
                  (first | refine back_intro2 True.intro ?_ | refine back_intro True.intro ?_)
                  clear cp cq
                  refine seg_sole 14 #[true, true, true, true, true, true, true, true, true, true, true, true, true, true, true, false, false, false] rfl (by kernel_rfl) ?_
                  try simp only [List.getElem_toArray, List.getElem_cons_zero, List.getElem_cons_succ]
                  go_wp2
                  (first | refine back_intro2 True.intro ?_ | refine back_intro True.intro ?_)
                  refine seg_sole 15 #[true, true, true, true, true, true, true, true, true, true, true, true, true, true, true, true, false, false] rfl (by kernel_rfl) ?_
                  try simp only [List.getElem_toArray, List.getElem_cons_zero, List.getElem_cons_succ]
                  go_wp2_with (refine mint_store p y ad (n + 1) c (.tmp 65) (.tmp 60) O M rfl (by rw [HLI.out]; have := HNN.out; omega) rfl rfl rfl rfl rfl rfl (by simp) ?_; clear O M; intro W O M)
                  (first | refine back_intro2 True.intro ?_ | refine back_intro True.intro ?_)
                  refine seg_sole 16 #[true, true, true, true, true, true, true, true, true, true, true, true, true, true, true, true, true, false] rfl (by kernel_rfl) ?_
                  try simp only [List.getElem_toArray, List.getElem_cons_zero, List.getElem_cons_succ]
                  go_wp2
                  (first | refine back_intro2 True.intro ?_ | refine back_intro True.intro ?_)
                  refine seg_sole 17 #[true, true, true, true, true, true, true, true, true, true, true, true, true, true, true, true, true, true] rfl (by kernel_rfl) ?_
                  try simp only [List.getElem_toArray, List.getElem_cons_zero, List.getElem_cons_succ]
                  go_wp2_with (refine mint_store q x ad (n + 1) c (.tmp 66) (.tmp 64) O M rfl (by rw [List.length_set, HLI.out]; have := HNN.out; have := HQ.out; omega) rfl rfl rfl rfl rfl rfl (by simp) ?_; clear O M; intro W O M)
                  (first | refine back_intro2 True.intro ?_ | refine back_intro True.intro ?_)
                  refine seg_done (by kernel_rfl) ?_
                  go_wp2
                  clear g6 g7
                  go_roundw
                  case rel => exact ⟨q, by have := HQ.out; omega, rfl, O, by have := insAt_swap ys x q (by have := HNN.out; have := HQ.out; omega); rw [← HQ.out, ← HY.out] at this; rw [← this]; exact M, hi_step (by have := HH.out; rwa [HQ.out] at this) (by rw [← HY.out]; exact HXY.out)⟩
                  case measure => (simp [intOf]; have := HQ.out; omega)
              · have g7 : decide (x < y) = false := decide_eq_false hxy
                have HNX := Lib.hid (show Rose (insAt ys x p) (xs.take (k + 1)) by
                  rw [HT.out]
                  exact HR.out.put HX0.out HIN.out (by have := HNN.out; omega) HH.out (.inr (by rw [show p - 1 = q by have := HQ.out; omega, ← HY.out]; exact hxy)))
                clear hxy
                go_wp2
                refine wp_quiet_later (by kernel_rfl) (by kernel_rfl) ?_
                repeat (first
                  | go_big_quiet_skip
                  | go_big_quiet_step (fail))
                refine wpQuiet_nil ?_
                intro _ hw
                obtain ⟨p', rfl⟩ := hw
                replace O := O.keeps p'.2
                replace M := M.keeps p'.2 (by simp)
                clear cp cq
                generalize p'.1 = W at O M ⊢
                go_wp2
                clear g6 g7 r1
                go_roundw
                case rel => exact ⟨k + 1, _, by omega, by go_num, O, M, HNX.out⟩
                case measure => (simp [intOf] <;> omega)
    · obtain rfl : k = m := by omega
      go_wp2
      go_ret
      exact ⟨⟨_, _, rfl, M, by have := HR.out; rwa [List.take_of_length_le (by rw [HL.out]; exact Nat.le_refl _)] at this⟩, O.keep⟩
end
end Go.Proofs.Ytakmcpadkanggaa
namespace Go.Proofs.Ytakmcpadkanggaa
open Go.RowKit Go.Maps Go.Deep
def oI (o : Option Int) : Int := o.getD (-1)
/-- What the document gathers besides the runner's own. -/
def refM (E : Nat → Ev) (rm : Int → Int) (j : Nat) (e : Ev) : List Int :=
  if e.op = 6 then (if e.sh then (shutN E e.a j).toList else [nthV (isSend E e.a) j (pickL (isTake E e.a) j).length])
  else if e.op = 5 then (if rm e.a ≤ ((pickL (isSend E e.a) j).length : Int) then [nthV (isTake E e.a) j (((pickL (isSend E e.a) j).length : Int) - rm e.a).toNat] else [])
  else if e.op = 8 then natL (freeL E e.a (aftN E e.a j) j)
  else if e.op = 11 then natL (pickL (isAdd E e.a) j)
  else []
theorem lastN_lt {E : Nat → Ev} {who i : Int} : ∀ {j : Nat}, lastN E who j = some i → 0 ≤ i ∧ i < j
  | 0, h => by simp [lastN] at h
  | j + 1, h => by
    unfold lastN at h
    split at h
    · cases h; omega
    · have := lastN_lt h; omega
theorem bornN_lt {E : Nat → Ev} {who i : Int} : ∀ {j : Nat}, bornN E who j = some i → 0 ≤ i ∧ i < j
  | 0, h => by simp [bornN] at h
  | j + 1, h => by
    unfold bornN at h
    split at h
    · cases h; omega
    · have := bornN_lt h; omega
theorem shutN_lt {E : Nat → Ev} {a i : Int} : ∀ {j : Nat}, shutN E a j = some i → 0 ≤ i ∧ i < j
  | 0, h => by simp [shutN] at h
  | j + 1, h => by
    unfold shutN at h
    split at h
    · cases h; omega
    · have := shutN_lt h; omega
theorem natL_pos {l : List Nat} {x : Int} (h : x ∈ natL l) : 0 ≤ x := by
  unfold natL at h
  obtain ⟨i, _, rfl⟩ := List.mem_map.1 h
  exact Int.natCast_nonneg i
theorem natL_getD (l : List Nat) (m : Nat) : (natL l)[m]? = l[m]?.map Int.ofNat := by simp [natL]
theorem ownL_lk (E : Nat → Ev) (j : Nat) (who : Int) : ownL (lkN E j) who = match lastN E who j with | some i => [i] | none => match bornN E who j with | some i => [i] | none => [] := by
  unfold ownL
  rw [lk_o4, lk_o5]
  all_goals (cases lastN E who j <;> first | rfl | (cases bornN E who j <;> rfl))
theorem ownL_pos {E : Nat → Ev} {j : Nat} {who x : Int} (h : x ∈ ownL (lkN E j) who) : 0 ≤ x ∧ x < j := by
  rw [ownL_lk] at h
  cases hl : lastN E who j with
  | some i =>
    rw [hl] at h
    obtain rfl : x = i := by simpa using h
    exact lastN_lt hl
  | none =>
    rw [hl] at h
    cases hb : bornN E who j with
    | some i =>
      rw [hb] at h
      obtain rfl : x = i := by simpa using h
      exact bornN_lt hb
    | none => rw [hb] at h; simp at h
theorem nthV_some {p : Nat → Bool} {j m : Nat} (h : m < (pickL p j).length) : nthV p j m = (natL (pickL p j)).getD m 0 ∧ 0 ≤ nthV p j m := by
  unfold nthV
  rw [List.getElem?_eq_getElem h, List.getD_eq_getElem?_getD, natL_getD, List.getElem?_eq_getElem h]
  exact ⟨rfl, Int.natCast_nonneg _⟩
theorem nthV_none {p : Nat → Bool} {j m : Nat} (h : (pickL p j).length ≤ m) : nthV p j m = -1 := by
  unfold nthV
  rw [List.getElem?_eq_none h]
/-- What the document gathers, but for what is below 0, is what the links give. -/
theorem into_same (E : Nat → Ev) (rm : Int → Int) (j : Nat) (e : Ev) (ht : e.op = 6 → e.sh = false → (pickL (isTake E e.a) j).length < (pickL (isSend E e.a) j).length) (hs : e.op = 6 → e.sh = true → (shutN E e.a j).isSome = true) (x : Int) :
    (x ∈ ownL (lkN E j) e.who ++ refM E rm j e ∧ 0 ≤ x) ↔ x ∈ nextR (lkN E j) rm e := by
  have hown : x ∈ ownL (lkN E j) e.who → 0 ≤ x := fun h => (ownL_pos h).1
  suffices h : (x ∈ refM E rm j e ∧ 0 ≤ x) ↔ x ∈ (if e.op = 5 then (if 1 ≤ (((lkN E j).rows 0 e.a).length + 1 : Nat) - rm e.a ∧ (((lkN E j).rows 0 e.a).length + 1 : Nat) - rm e.a ≤ (((lkN E j).rows 1 e.a).length : Nat) then [((lkN E j).rows 1 e.a).getD ((((lkN E j).rows 0 e.a).length + 1 : Nat) - rm e.a - 1).toNat 0] else [])
    else if e.op = 6 then (if e.sh then [((lkN E j).ones 6 e.a).getD 0] else [((lkN E j).rows 0 e.a).getD ((lkN E j).rows 1 e.a).length 0])
    else if e.op = 8 then (lkN E j).rows 2 e.a else if e.op = 11 then (lkN E j).rows 3 e.a else []) by
    unfold nextR
    rw [List.mem_append, List.mem_append, ← h]
    constructor
    · rintro ⟨a | a, b⟩
      · exact .inl a
      · exact .inr ⟨a, b⟩
    · rintro (a | ⟨a, b⟩)
      · exact ⟨.inl a, hown a⟩
      · exact ⟨.inr a, b⟩
  rw [lk_r0, lk_r1, lk_r2, lk_r3, lk_o6]
  simp only [natL_length]
  unfold refM
  by_cases h5 : e.op = 5
  · rw [if_neg (by omega), if_pos h5, if_pos h5]
    by_cases hr : rm e.a ≤ ((pickL (isSend E e.a) j).length : Int)
    · rw [if_pos hr]
      have e1 : ((((pickL (isSend E e.a) j).length + 1 : Nat) : Int) - rm e.a - 1).toNat = (((pickL (isSend E e.a) j).length : Int) - rm e.a).toNat := by congr 1; omega
      rcases Nat.lt_or_ge (((pickL (isSend E e.a) j).length : Int) - rm e.a).toNat (pickL (isTake E e.a) j).length with hl | hl
      · rw [if_pos (by omega), e1, (nthV_some hl).1.symm]
        have := (nthV_some hl).2
        rw [List.mem_singleton]
        exact ⟨fun h => h.1, fun h => ⟨h, by rw [h]; exact this⟩⟩
      · rw [if_neg (by omega), nthV_none hl, List.mem_singleton]
        simp
        omega
    · rw [if_neg hr, if_neg (by omega)]
      simp
  · by_cases h6 : e.op = 6
    · rw [if_pos h6, if_neg h5, if_pos h6]
      cases hsh : e.sh with
      | true =>
        rw [if_pos rfl, if_pos rfl]
        obtain ⟨i, hi⟩ := Option.isSome_iff_exists.1 (hs h6 hsh)
        rw [hi]
        have := shutN_lt hi
        simp
        omega
      | false =>
        have hl := ht h6 hsh
        rw [if_neg (by simp), if_neg (by simp), (nthV_some hl).1.symm, List.mem_singleton]
        have := (nthV_some hl).2
        exact ⟨fun h => h.1, fun h => ⟨h, by rw [h]; exact this⟩⟩
    · rw [if_neg h6, if_neg h5, if_neg h5, if_neg h6]
      by_cases h8 : e.op = 8
      · simp only [if_pos h8]
        exact ⟨fun h => h.1, fun h => ⟨h, natL_pos h⟩⟩
      · simp only [if_neg h8]
        by_cases h11 : e.op = 11
        · simp only [if_pos h11]
          exact ⟨fun h => h.1, fun h => ⟨h, natL_pos h⟩⟩
        · simp only [if_neg h11]
          simp
theorem into_rose {E : Nat → Ev} {rm : Int → Int} {j : Nat} {ys : List Int} (h : Rose ys (ownL (lkN E j) (E j).who ++ refM E rm j (E j)))
    (ht : (E j).op = 6 → (E j).sh = false → (pickL (isTake E (E j).a) j).length < (pickL (isSend E (E j).a) j).length) (hs : (E j).op = 6 → (E j).sh = true → (shutN E (E j).a j).isSome = true) : ys = intoL E rm j :=
  sc_eq h.1 fun x => by rw [h.2.1]; exact into_same E rm j (E j) ht hs x
theorem stN_counts (E : Nat → Ev) (a : Int) : ∀ j, (stN E j).sent a = ((pickL (isSend E a) j).length : Int) ∧ (stN E j).took a = ((pickL (isTake E a) j).length : Int) ∧ ((stN E j).shut a = true ↔ (shutN E a j).isSome = true)
  | 0 => ⟨rfl, rfl, by simp [stN, st0, shutN]⟩
  | j + 1 => by
    obtain ⟨h1, h2, h3⟩ := stN_counts E a j
    rw [pickL_succ, pickL_succ, List.length_append, List.length_append]
    show (nextE (stN E j) (E j)).sent a = _ ∧ (nextE (stN E j) (E j)).took a = _ ∧ ((nextE (stN E j) (E j)).shut a = true ↔ _)
    have e7 : (shutN E a (j + 1)) = if (E j).op = 7 ∧ (E j).a = a ∧ (shutN E a j).isNone then some (j : Int) else shutN E a j := rfl
    rw [e7]
    unfold nextE
    by_cases h14 : (E j).op = 14
    · rw [if_pos h14, if_neg (show ¬ isSend E a j = true by simp [isSend, h14]), if_neg (show ¬ isTake E a j = true by simp [isTake, h14]), if_neg (show ¬ ((E j).op = 7 ∧ (E j).a = a ∧ (shutN E a j).isNone = true) by omega)]
      split <;> exact ⟨by simpa using h1, by simpa using h2, h3⟩
    · rw [if_neg h14]
      by_cases h5 : (E j).op = 5
      · rw [if_pos h5, if_neg (show ¬ isTake E a j = true by simp [isTake, h5]), if_neg (show ¬ ((E j).op = 7 ∧ (E j).a = a ∧ (shutN E a j).isNone = true) by omega)]
        refine ⟨?_, by simpa using h2, h3⟩
        by_cases ha : (E j).a = a
        · subst ha
          rw [if_pos (show isSend E (E j).a j = true by simp [isSend, h5])]
          simp [updI, h1]
        · rw [if_neg (show ¬ isSend E a j = true by simp [isSend, ha])]
          simp only [updI_other _ _ _ _ (fun q => ha (Eq.symm q))]
          simpa using h1
      · rw [if_neg h5, if_neg (show ¬ isSend E a j = true by simp [isSend, h5])]
        by_cases h6 : (E j).op = 6
        · rw [if_pos h6, if_neg (show ¬ ((E j).op = 7 ∧ (E j).a = a ∧ (shutN E a j).isNone = true) by omega)]
          by_cases hs : (E j).sh = true
          · rw [if_pos hs, if_neg (show ¬ isTake E a j = true by simp [isTake, hs])]
            exact ⟨by simpa using h1, by simpa using h2, h3⟩
          · rw [if_neg hs]
            refine ⟨by simpa using h1, ?_, h3⟩
            by_cases ha : (E j).a = a
            · subst ha
              rw [if_pos (show isTake E (E j).a j = true by simp [isTake, h6, hs])]
              simp [updI, h2]
            · rw [if_neg (show ¬ isTake E a j = true by simp [isTake, ha])]
              simp only [updI_other _ _ _ _ (fun q => ha (Eq.symm q))]
              simpa using h2
        · rw [if_neg h6, if_neg (show ¬ isTake E a j = true by simp [isTake, h6])]
          by_cases h7 : (E j).op = 7
          · rw [if_pos h7]
            refine ⟨by simpa using h1, by simpa using h2, ?_⟩
            by_cases ha : (E j).a = a
            · subst ha
              simp only [updI_same]
              split
              · simp
              · rename_i hq
                cases hx : shutN E (E j).a j with
                | some i => simp
                | none => exact absurd ⟨h7, trivial, by rw [hx]; rfl⟩ hq
            · simp only [updI_other _ _ _ _ (fun q => ha (Eq.symm q))]
              rw [if_neg (fun q => ha q.2.1)]
              exact h3
          · rw [if_neg h7, if_neg (show ¬ ((E j).op = 7 ∧ (E j).a = a ∧ (shutN E a j).isNone = true) by omega)]
            split
            · exact ⟨by simpa using h1, by simpa using h2, h3⟩
            · split <;> exact ⟨by simpa using h1, by simpa using h2, h3⟩
theorem ok_take {S : Sys} {E : Nat → Ev} {j : Nat} (h : okE S (stN E j) (E j) = true) (h6 : (E j).op = 6) (hs : (E j).sh = false) : (pickL (isTake E (E j).a) j).length < (pickL (isSend E (E j).a) j).length := by
  unfold okE bodyE at h
  rw [if_neg (by omega), if_pos h6, hs] at h
  simp only [Bool.and_eq_true, Bool.false_eq_true, if_false, decide_eq_true_eq] at h
  obtain ⟨h1, h2, _⟩ := stN_counts E (E j).a j
  omega
theorem ok_shut {S : Sys} {E : Nat → Ev} {j : Nat} (h : okE S (stN E j) (E j) = true) (h6 : (E j).op = 6) (hs : (E j).sh = true) : (shutN E (E j).a j).isSome = true := by
  unfold okE bodyE at h
  rw [if_neg (by omega), if_pos h6, hs] at h
  simp only [Bool.and_eq_true, if_true] at h
  exact (stN_counts E (E j).a j).2.2.1 h.2
end Go.Proofs.Ytakmcpadkanggaa
namespace Go.Proofs.Ytakmcpadkanggaa
open Go.RowKit Go.Maps Go.Deep
/-- Is event i counted for e? -/
def samE (E : Nat → Ev) (e : Ev) (i : Nat) : Bool := (((e.op == 5) && ((E i).op == 5)) || ((e.op == 6) && (!e.sh && (((E i).op == 6) && !(E i).sh)))) && ((E i).a == e.a)
theorem samE_5 (E : Nat → Ev) (e : Ev) (h : e.op = 5) : samE E e = isSend E e.a := by
  funext i
  simp [samE, isSend, h, Bool.beq_eq_decide_eq]
theorem samE_6 (E : Nat → Ev) (e : Ev) (h : e.op = 6) (hs : e.sh = false) : samE E e = isTake E e.a := by
  funext i
  simp only [samE, isTake, h, hs]
  cases (E i).sh <;> by_cases h6 : (E i).op = 6 <;> by_cases ha : (E i).a = e.a <;> simp [h6, ha]
section
variable {w : World} {S : Sys} {A : Option Addr} {c : Nat} {R : Option Addr} {d n : Nat} {E : Nat → Ev} {B : Option Addr} {cb : Nat}
def rmS (S : Sys) (a : Int) : Int := S.rm a.toNat
def IntoPost (w : World) (S : Sys) (E : Nat → Ev) (j : Nat) (e : Ending) (w' : World) : Prop := (∃ r, e = .returned r ∧ Mint w.heap.size w' r (intoL E (rmS S) j)) ∧ Keeps w w' []
theorem mint_low {W : World} {r : Value} {b b' : Nat} {xs : List Int} (h : Mint b' W r xs) (hb : b ≤ b') : Mint b W r xs := by
  refine ⟨h.1, ?_⟩
  rcases h.2 with hn | ⟨g, cap, cur, rfl, hg, rest⟩
  · exact .inl hn
  · exact .inr ⟨g, cap, cur, rfl, Nat.le_trans hb hg, rest⟩
theorem shutN_stay {a i : Int} {m : Nat} (h : shutN E a m = some i) : ∀ k, m ≤ k → shutN E a k = some i
  | 0, hk => by obtain rfl : m = 0 := by omega
                exact h
  | k + 1, hk => by
    by_cases e : m = k + 1
    · rw [← e]; exact h
    · have := shutN_stay h k (by omega)
      unfold shutN
      rw [this]
      simp
theorem shutN_found {a : Int} {m k : Nat} (h : shutN E a m = none) (h7 : (E m).op = 7) (ha : (E m).a = a) (hm : m < k) : shutN E a k = some (m : Int) :=
  shutN_stay (m := m + 1) (by unfold shutN; rw [h, if_pos ⟨h7, ha, rfl⟩]) k hm
theorem freeL_succ (a : Int) (m j : Nat) : freeL E a m (j + 1) = freeL E a m j ++ if isFree E a j && decide (m ≤ j) then [j] else [] := by unfold freeL; rw [pickL_succ]
theorem freeL_len (a : Int) (m j : Nat) : (freeL E a m j).length ≤ j := pickL_length _ _
theorem ok_room {S : Sys} {st : St} {who a v : Int} {sh : Bool} (h : okE S st ⟨who, 5, a, v, sh⟩ = true) : 0 ≤ a ∧ a < S.nr := by
  unfold okE headE at h
  simp [cnt] at h
  omega
def LI (S : Sys) (A : Option Addr) (c : Nat) (R : Option Addr) (d g7 a3 : Nat) (e : Ev) : List Ent := [(g7, 37, evC e), (a3, 27, sysV S A c R d)]
end
end Go.Proofs.Ytakmcpadkanggaa
namespace Go.Proofs.Ytakmcpadkanggaa
open Go.RowKit Go.Maps Go.Deep
section
variable {w : World} {S : Sys} {A : Option Addr} {c : Nat} {R : Option Addr} {d n : Nat} {E : Nat → Ev} {B : Option Addr} {cb : Nat}
set_option maxRecDepth 100000 in
set_option maxHeartbeats 4000000 in
theorem into_6 (hS : SysIn w S A c R d) (hE : EvsAt w B n E) (hn : n ≤ 40000) (hrm : ∀ q, q < S.nr → 1 ≤ S.rm q ∧ S.rm q ≤ 1000000) (j : Nat) (hj : j < n) (hok : okE S (stN E j) (E j) = true) (hop : (E j).op = 6) : Calls Try.prog 71 #[.agg (sysV S A c R d), .slice B n cb, .int .i64 (j : Int)] w (IntoPost w S E j) := by
  have O := Own.start w []
  have HE := Lib.hid hE
  have g1 : ((j : Nat) : Int) < n := by omega
  have g0 : (0 : Int) ≤ j := by omega
  obtain ⟨ad, rfl, hc⟩ := EvsAt.row (u := w) HE.out hj
  have HC := Lib.hid hc
  obtain ⟨e, he⟩ : ∃ e, e = E j := ⟨_, rfl⟩
  rw [← he] at hc HC hop
  have HEJ := Lib.hid he
  have HRO := Lib.hid hS.rooms
  have HRM := Lib.hid hrm
  have HOK := Lib.hid hok
  clear hc hE he hS hrm hok
  obtain ⟨who, op, a, v, sh⟩ := e
  have HOP := Lib.hid hop
  clear hop
  go_enter Try.func71, Try.ntmps71
  go_wp2_with (first
    | go_big_skip
    | (refine own_box 3 (sysV S A c R d) O rfl rfl rfl rfl ?_; clear O; intro W a3 O; simp only [Act.put, List.setIfInBounds_toArray, List.set_cons_zero, List.set_cons_succ])
    | (refine wpList_load_at 21 rfl rfl rfl rfl (HC.out [] _ O.keep (by simp)) Try.underlying37 rfl (by kernel_rfl) ?_; simp only [Act.put, List.setIfInBounds_toArray, List.set_cons_zero, List.set_cons_succ])
    | (refine own_alloc 7 (evC ⟨0, 0, 0, 0, false⟩) O rfl rfl rfl (fun _ => by kernel_rfl) ?_; clear O; intro W g7 O; simp only [Act.put, List.setIfInBounds_toArray, List.set_cons_zero, List.set_cons_succ])
    | (refine own_store_row 0 (.tmp 7) (.tmp 21) O rfl rfl rfl rfl rfl rfl (by kernel_rfl) (by rfl) (evC_cell _) ?_; clear O; intro W O; simp only [List.set_cons_zero] at O))
  go_loopg [9, 10, 11, 12] j (fun g s9 s10 s11 s12 wr => ∃ k, k ≤ j ∧ g = j - k ∧ s12 = .int .i64 (k : Int) ∧ s9 = .int .i64 (oI (lastN E who k)) ∧ s10 = .int .i64 (oI (bornN E who k)) ∧ s11 = .int .i64 ((pickL (samE E ⟨who, op, a, v, sh⟩) k).length : Int) ∧ Own w wr [] (LI S A c R d g7 a3 ⟨who, op, a, v, sh⟩))
  case atStart => exact ⟨0, by omega, by omega, rfl, rfl, rfl, rfl, O⟩
  case round =>
    obtain ⟨k, hk, hgk, rfl, rfl, rfl, rfl, O⟩ := hrel
    have HG := Lib.hid hgk
    clear hgk
    by_cases hlt : k < j
    · have g2 : ((k : Int)) < j := by omega
      have g3 : ((k : Int)) < n := by omega
      have g4 : (0 : Int) ≤ k := by omega
      obtain ⟨ad', e', hc⟩ := EvsAt.row (u := w) HE.out (show k < n by omega)
      cases e'
      obtain ⟨f, hf⟩ : ∃ f, f = E k := ⟨_, rfl⟩
      rw [← hf] at hc
      have HCK := Lib.hid hc
      have HLN := Lib.hid (show lastN E who (k + 1) = if f.who = who then some (k : Int) else lastN E who k by rw [hf]; rfl)
      have HBN := Lib.hid (show bornN E who (k + 1) = if f.op = 14 ∧ 0 < f.v ∧ f.v = who then some (k : Int) else bornN E who k by rw [hf]; rfl)
      have HSM := Lib.hid (show samE E ⟨who, op, a, v, sh⟩ k = ((((op == 5) && (f.op == 5)) || ((op == 6) && (!sh && ((f.op == 6) && !f.sh)))) && (f.a == a)) by rw [hf]; rfl)
      have HPL := Lib.hid (show (pickL (samE E ⟨who, op, a, v, sh⟩) (k + 1)).length = (pickL (samE E ⟨who, op, a, v, sh⟩) k).length + if samE E ⟨who, op, a, v, sh⟩ k then 1 else 0 by rw [pickL_succ, List.length_append]; split <;> rfl)
      have hpl := pickL_length (samE E ⟨who, op, a, v, sh⟩) k
      generalize samE E ⟨who, op, a, v, sh⟩ k = sm at HSM HPL
      generalize hnk : (pickL (samE E ⟨who, op, a, v, sh⟩) k).length = nk at hpl HPL ⊢
      clear hf hc hnk
      obtain ⟨lw, lo, la, lv, ls⟩ := f
      have c0 : ∀ p : Later wr, p.1.cell? (ad.add (k * 5)) = some (.int .i64 lw) := fun p => HCK.out [] _ (O.keep.trans p.2 (by simp)) (by simp) 0 (by show 0 < 5; omega)
      have c1 : ∀ p : Later wr, p.1.cell? ⟨(ad.add (k * 5)).block, (ad.add (k * 5)).off + 1, none⟩ = some (.int .i64 lo) := fun p => HCK.out [] _ (O.keep.trans p.2 (by simp)) (by simp) 1 (by show 1 < 5; omega)
      have c2 : ∀ p : Later wr, p.1.cell? ⟨(ad.add (k * 5)).block, (ad.add (k * 5)).off + 2, none⟩ = some (.int .i64 la) := fun p => HCK.out [] _ (O.keep.trans p.2 (by simp)) (by simp) 2 (by show 2 < 5; omega)
      have c3 : ∀ p : Later wr, p.1.cell? ⟨(ad.add (k * 5)).block, (ad.add (k * 5)).off + 3, none⟩ = some (.int .i64 lv) := fun p => HCK.out [] _ (O.keep.trans p.2 (by simp)) (by simp) 3 (by show 3 < 5; omega)
      have c4 : ∀ p : Later wr, p.1.cell? ⟨(ad.add (k * 5)).block, (ad.add (k * 5)).off + 4, none⟩ = some (.bool ls) := fun p => HCK.out [] _ (O.keep.trans p.2 (by simp)) (by simp) 4 (by show 4 < 5; omega)
      have c7 : ∀ (p : Later wr) (i : Nat), p.1.cell? ⟨g7, i, none⟩ = #[Value.int .i64 who, .int .i64 op, .int .i64 a, .int .i64 v, .bool sh][i]? := Later.cell (O.get 0 rfl)
      go_upto_region 9 with (fail)
      refine wp_quiet_later (by kernel_rfl) (by kernel_rfl) ?_
      repeat (first
        | go_big_quiet_skip
        | go_big_quiet_step (fail))
      refine wpQuiet_nil ?_
      intro _ hw
      obtain ⟨p', rfl⟩ := hw
      replace O := O.keeps p'.2
      clear c0 c1 c2 c3 c4 c7
      generalize p'.1 = W at O ⊢
      go_upto_if 34 with (fail)
      go_cut [9] (fun s9 wx => s9 = .int .i64 (oI (lastN E who (k + 1))) ∧ Own w wx [] (LI S A c R d g7 a3 ⟨who, op, a, v, sh⟩))
      case first =>
        by_cases h : lw = who
        · have e1 : (lw == who) = true := by simpa using h
          have HN := Lib.hid (HLN.out.trans (if_pos h))
          clear h
          go_wp2
          go_meet
          exact ⟨by rw [HN.out]; rfl, O⟩
        · have e1 : (lw == who) = false := by simpa using h
          have HN := Lib.hid (HLN.out.trans (if_neg h))
          clear h
          go_wp2
          go_meet
          exact ⟨by rw [HN.out], O⟩
      case rest =>
        obtain ⟨rfl, O⟩ := hcut
        clear HLN
        have c0 : ∀ p : Later wc, p.1.cell? (ad.add (k * 5)) = some (.int .i64 lw) := fun p => HCK.out [] _ (O.keep.trans p.2 (by simp)) (by simp) 0 (by show 0 < 5; omega)
        have c1 : ∀ p : Later wc, p.1.cell? ⟨(ad.add (k * 5)).block, (ad.add (k * 5)).off + 1, none⟩ = some (.int .i64 lo) := fun p => HCK.out [] _ (O.keep.trans p.2 (by simp)) (by simp) 1 (by show 1 < 5; omega)
        have c2 : ∀ p : Later wc, p.1.cell? ⟨(ad.add (k * 5)).block, (ad.add (k * 5)).off + 2, none⟩ = some (.int .i64 la) := fun p => HCK.out [] _ (O.keep.trans p.2 (by simp)) (by simp) 2 (by show 2 < 5; omega)
        have c3 : ∀ p : Later wc, p.1.cell? ⟨(ad.add (k * 5)).block, (ad.add (k * 5)).off + 3, none⟩ = some (.int .i64 lv) := fun p => HCK.out [] _ (O.keep.trans p.2 (by simp)) (by simp) 3 (by show 3 < 5; omega)
        have c4 : ∀ p : Later wc, p.1.cell? ⟨(ad.add (k * 5)).block, (ad.add (k * 5)).off + 4, none⟩ = some (.bool ls) := fun p => HCK.out [] _ (O.keep.trans p.2 (by simp)) (by simp) 4 (by show 4 < 5; omega)
        have c7 : ∀ (p : Later wc) (i : Nat), p.1.cell? ⟨g7, i, none⟩ = #[Value.int .i64 who, .int .i64 op, .int .i64 a, .int .i64 v, .bool sh][i]? := Later.cell (O.get 0 rfl)
        obtain ⟨bB, hbB⟩ : ∃ bB, bB = decide (lo = 14 ∧ 0 < lv ∧ lv = who) := ⟨_, rfl⟩
        have HBB := Lib.hid hbB
        clear hbB
        go_upto_region 11 with (fail)
        go_cut [56] (fun s wx => s = .bool bB ∧ Own w wx [] (LI S A c R d g7 a3 ⟨who, op, a, v, sh⟩))
        case first =>
          by_cases h1 : lo = 14
          · have qh1 : (lo == 14) = true := by simpa using h1
            by_cases h2 : lv = who
            · have qh2 : (lv == who) = true := by simpa using h2
              by_cases h3 : 0 < who
              · have qh3 : decide (0 < who) = true := decide_eq_true h3
                have HV := Lib.hid (show bB = true by rw [HBB.out]; simp [qh1, h1, qh2, h2, qh3, h3])
                clear h1 h2 h3
                refine wp_quiet_later (by kernel_rfl) (by kernel_rfl) ?_
                repeat (first
                  | go_big_quiet_skip
                  | go_big_quiet_step (fail))
                refine wpQuiet_nil ?_
                intro _ hw
                obtain ⟨p', rfl⟩ := hw
                replace O := O.keeps p'.2
                clear c0 c1 c2 c3 c4 c7 qh1 qh2 qh3
                generalize p'.1 = W at O ⊢
                go_wp2
                go_meet
                exact ⟨by rw [HV.out], O⟩
              · have qh3 : decide (0 < who) = false := decide_eq_false h3
                have HV := Lib.hid (show bB = false by rw [HBB.out]; simp [qh1, h1, qh2, h2, qh3, h3])
                clear h1 h2 h3
                refine wp_quiet_later (by kernel_rfl) (by kernel_rfl) ?_
                repeat (first
                  | go_big_quiet_skip
                  | go_big_quiet_step (fail))
                refine wpQuiet_nil ?_
                intro _ hw
                obtain ⟨p', rfl⟩ := hw
                replace O := O.keeps p'.2
                clear c0 c1 c2 c3 c4 c7 qh1 qh2 qh3
                generalize p'.1 = W at O ⊢
                go_wp2
                go_meet
                exact ⟨by rw [HV.out], O⟩
            · have qh2 : (lv == who) = false := by simpa using h2
              have HV := Lib.hid (show bB = false by rw [HBB.out]; simp [qh1, h1, qh2, h2])
              clear h1 h2
              refine wp_quiet_later (by kernel_rfl) (by kernel_rfl) ?_
              repeat (first
                | go_big_quiet_skip
                | go_big_quiet_step (fail))
              refine wpQuiet_nil ?_
              intro _ hw
              obtain ⟨p', rfl⟩ := hw
              replace O := O.keeps p'.2
              clear c0 c1 c2 c3 c4 c7 qh1 qh2
              generalize p'.1 = W at O ⊢
              go_wp2
              go_meet
              exact ⟨by rw [HV.out], O⟩
          · have qh1 : (lo == 14) = false := by simpa using h1
            have HV := Lib.hid (show bB = false by rw [HBB.out]; simp [qh1, h1])
            clear h1
            refine wp_quiet_later (by kernel_rfl) (by kernel_rfl) ?_
            repeat (first
              | go_big_quiet_skip
              | go_big_quiet_step (fail))
            refine wpQuiet_nil ?_
            intro _ hw
            obtain ⟨p', rfl⟩ := hw
            replace O := O.keeps p'.2
            clear c0 c1 c2 c3 c4 c7 qh1
            generalize p'.1 = W at O ⊢
            go_wp2
            go_meet
            exact ⟨by rw [HV.out], O⟩
        case rest =>
          obtain ⟨rfl, O⟩ := hcut
          clear c0 c1 c2 c3 c4 c7
          go_upto_if 56 with (fail)
          go_cut [10] (fun s10 wx => s10 = .int .i64 (oI (bornN E who (k + 1))) ∧ Own w wx [] (LI S A c R d g7 a3 ⟨who, op, a, v, sh⟩))
          case first =>
            cases bB with
            | true =>
              have HN := Lib.hid (HBN.out.trans (if_pos (of_decide_eq_true HBB.out.symm)))
              go_wp2
              go_meet
              exact ⟨by rw [HN.out]; rfl, O⟩
            | false =>
              have HN := Lib.hid (HBN.out.trans (if_neg (of_decide_eq_false HBB.out.symm)))
              go_wp2
              go_meet
              exact ⟨by rw [HN.out], O⟩
          case rest =>
            obtain ⟨rfl, O⟩ := hcut
            clear HBN HBB
            have c0 : ∀ p : Later wc, p.1.cell? (ad.add (k * 5)) = some (.int .i64 lw) := fun p => HCK.out [] _ (O.keep.trans p.2 (by simp)) (by simp) 0 (by show 0 < 5; omega)
            have c1 : ∀ p : Later wc, p.1.cell? ⟨(ad.add (k * 5)).block, (ad.add (k * 5)).off + 1, none⟩ = some (.int .i64 lo) := fun p => HCK.out [] _ (O.keep.trans p.2 (by simp)) (by simp) 1 (by show 1 < 5; omega)
            have c2 : ∀ p : Later wc, p.1.cell? ⟨(ad.add (k * 5)).block, (ad.add (k * 5)).off + 2, none⟩ = some (.int .i64 la) := fun p => HCK.out [] _ (O.keep.trans p.2 (by simp)) (by simp) 2 (by show 2 < 5; omega)
            have c3 : ∀ p : Later wc, p.1.cell? ⟨(ad.add (k * 5)).block, (ad.add (k * 5)).off + 3, none⟩ = some (.int .i64 lv) := fun p => HCK.out [] _ (O.keep.trans p.2 (by simp)) (by simp) 3 (by show 3 < 5; omega)
            have c4 : ∀ p : Later wc, p.1.cell? ⟨(ad.add (k * 5)).block, (ad.add (k * 5)).off + 4, none⟩ = some (.bool ls) := fun p => HCK.out [] _ (O.keep.trans p.2 (by simp)) (by simp) 4 (by show 4 < 5; omega)
            have c7 : ∀ (p : Later wc) (i : Nat), p.1.cell? ⟨g7, i, none⟩ = #[Value.int .i64 who, .int .i64 op, .int .i64 a, .int .i64 v, .bool sh][i]? := Later.cell (O.get 0 rfl)
            go_upto_region 13 with (fail)
            go_cut [104] (fun s wx => s = .bool sm ∧ Own w wx [] (LI S A c R d g7 a3 ⟨who, op, a, v, sh⟩))
            case first =>
              have q1 : (op == 5) = false := by have h := HOP.out; simpa using (show ¬ op = 5 by omega)
              by_cases h3 : op = 6
              · have qh3 : (op == 6) = true := by simpa using h3
                rcases Bool.eq_false_or_eq_true sh with h4 | h4
                · rw [h4] at c7
                  have HV := Lib.hid (show sm = false by rw [HSM.out]; simp [q1, qh3, h3, h4])
                  clear h3 h4
                  refine wp_quiet_later (by kernel_rfl) (by kernel_rfl) ?_
                  repeat (first
                    | go_big_quiet_skip
                    | go_big_quiet_step (fail))
                  refine wpQuiet_nil ?_
                  intro _ hw
                  obtain ⟨p', rfl⟩ := hw
                  replace O := O.keeps p'.2
                  clear c0 c1 c2 c3 c4 c7 q1 qh3
                  generalize p'.1 = W at O ⊢
                  go_wp2
                  go_meet
                  exact ⟨by rw [HV.out], O⟩
                · rw [h4] at c7
                  by_cases h5 : lo = 6
                  · have qh5 : (lo == 6) = true := by simpa using h5
                    rcases Bool.eq_false_or_eq_true ls with h6 | h6
                    · rw [h6] at c4
                      have HV := Lib.hid (show sm = false by rw [HSM.out]; simp [q1, qh3, h3, h4, qh5, h5, h6])
                      clear h3 h4 h5 h6
                      refine wp_quiet_later (by kernel_rfl) (by kernel_rfl) ?_
                      repeat (first
                        | go_big_quiet_skip
                        | go_big_quiet_step (fail))
                      refine wpQuiet_nil ?_
                      intro _ hw
                      obtain ⟨p', rfl⟩ := hw
                      replace O := O.keeps p'.2
                      clear c0 c1 c2 c3 c4 c7 q1 qh3 qh5
                      generalize p'.1 = W at O ⊢
                      go_wp2
                      go_meet
                      exact ⟨by rw [HV.out], O⟩
                    · rw [h6] at c4
                      by_cases h7 : la = a
                      · have qh7 : (la == a) = true := by simpa using h7
                        have HV := Lib.hid (show sm = true by rw [HSM.out]; simp [q1, qh3, h3, h4, qh5, h5, h6, qh7, h7])
                        clear h3 h4 h5 h6 h7
                        refine wp_quiet_later (by kernel_rfl) (by kernel_rfl) ?_
                        repeat (first
                          | go_big_quiet_skip
                          | go_big_quiet_step (fail))
                        refine wpQuiet_nil ?_
                        intro _ hw
                        obtain ⟨p', rfl⟩ := hw
                        replace O := O.keeps p'.2
                        clear c0 c1 c2 c3 c4 c7 q1 qh3 qh5 qh7
                        generalize p'.1 = W at O ⊢
                        go_wp2
                        go_meet
                        exact ⟨by rw [HV.out], O⟩
                      · have qh7 : (la == a) = false := by simpa using h7
                        have HV := Lib.hid (show sm = false by rw [HSM.out]; simp [q1, qh3, h3, h4, qh5, h5, h6, qh7, h7])
                        clear h3 h4 h5 h6 h7
                        refine wp_quiet_later (by kernel_rfl) (by kernel_rfl) ?_
                        repeat (first
                          | go_big_quiet_skip
                          | go_big_quiet_step (fail))
                        refine wpQuiet_nil ?_
                        intro _ hw
                        obtain ⟨p', rfl⟩ := hw
                        replace O := O.keeps p'.2
                        clear c0 c1 c2 c3 c4 c7 q1 qh3 qh5 qh7
                        generalize p'.1 = W at O ⊢
                        go_wp2
                        go_meet
                        exact ⟨by rw [HV.out], O⟩
                  · have qh5 : (lo == 6) = false := by simpa using h5
                    have HV := Lib.hid (show sm = false by rw [HSM.out]; simp [q1, qh3, h3, h4, qh5, h5])
                    clear h3 h4 h5
                    refine wp_quiet_later (by kernel_rfl) (by kernel_rfl) ?_
                    repeat (first
                      | go_big_quiet_skip
                      | go_big_quiet_step (fail))
                    refine wpQuiet_nil ?_
                    intro _ hw
                    obtain ⟨p', rfl⟩ := hw
                    replace O := O.keeps p'.2
                    clear c0 c1 c2 c3 c4 c7 q1 qh3 qh5
                    generalize p'.1 = W at O ⊢
                    go_wp2
                    go_meet
                    exact ⟨by rw [HV.out], O⟩
              · have qh3 : (op == 6) = false := by simpa using h3
                have HV := Lib.hid (show sm = false by rw [HSM.out]; simp [q1, qh3, h3])
                clear h3
                refine wp_quiet_later (by kernel_rfl) (by kernel_rfl) ?_
                repeat (first
                  | go_big_quiet_skip
                  | go_big_quiet_step (fail))
                refine wpQuiet_nil ?_
                intro _ hw
                obtain ⟨p', rfl⟩ := hw
                replace O := O.keeps p'.2
                clear c0 c1 c2 c3 c4 c7 q1 qh3
                generalize p'.1 = W at O ⊢
                go_wp2
                go_meet
                exact ⟨by rw [HV.out], O⟩
            case rest =>
              obtain ⟨rfl, O⟩ := hcut
              clear c0 c1 c2 c3 c4 c7 HSM
              cases sm with
              | true =>
                go_wp2
                go_roundg (j - (k + 1))
                case measure => (have := HG.out; omega)
                case rel => exact ⟨k + 1, by omega, rfl, by go_num, rfl, rfl, by rw [HPL.out]; go_num, O⟩
              | false =>
                go_wp2
                go_roundg (j - (k + 1))
                case measure => (have := HG.out; omega)
                case rel => exact ⟨k + 1, by omega, rfl, by go_num, rfl, rfl, by rw [HPL.out]; rfl, O⟩
    · obtain rfl : k = j := by omega
      clear HG g1
      obtain ⟨x9, hx9⟩ : ∃ x, x = oI (lastN E who k) := ⟨_, rfl⟩
      obtain ⟨x10, hx10⟩ : ∃ x, x = oI (bornN E who k) := ⟨_, rfl⟩
      obtain ⟨nk, hnk⟩ : ∃ x, x = (pickL (samE E ⟨who, op, a, v, sh⟩) k).length := ⟨_, rfl⟩
      rw [← hx9, ← hx10, ← hnk]
      have HNK := Lib.hid hnk
      have HX9 := Lib.hid hx9
      have HX10 := Lib.hid hx10
      have hnkk : nk ≤ k := by rw [hnk]; exact pickL_length _ _
      clear hx9 hx10 hnk
      go_upto_if 108 with (fail)
      go_cut [8] (fun s8 wx => Own w wx [] (LI S A c R d g7 a3 ⟨who, op, a, v, sh⟩) ∧ Mint w.heap.size wx s8 (ownL (lkN E k) who))
      case first =>
        have M := Mint.nil w.heap.size wr
        cases hl : lastN E who k with
        | some i =>
          have HO := Lib.hid (show ownL (lkN E k) who = [] ++ [x9] by rw [ownL_lk, hl, HX9.out, hl]; rfl)
          have q1 : (0 : Int) ≤ x9 := by rw [HX9.out, hl]; exact (lastN_lt hl).1
          clear hl
          go_wp2_with (first
            | (refine own_lit1 111 (x9) O rfl rfl rfl rfl ?_; clear O; intro W gl O K1 _; replace M := M.keeps K1 (by simp); clear K1; simp only [Act.put, List.setIfInBounds_toArray, List.set_cons_zero, List.set_cons_succ])
            | (at_builtin; refine own_app w.heap.size _ ([]) (x9) gl (.tmp 109) (.tmp 111) (O.drop_ 1) M rfl rfl rfl rfl ((O.get 0 rfl).cell 0) rfl (by simp [LI]) (by simp) ?_; clear O M; intro v1 W O M; simp only [List.drop] at O; simp only [Act.put, List.setIfInBounds_toArray, List.set_cons_zero, List.set_cons_succ]))
          go_meet
          exact ⟨O, by rw [HO.out]; exact M⟩
        | none =>
          have q1 : ¬ (0 : Int) ≤ x9 := by rw [HX9.out, hl]; decide
          cases hb : bornN E who k with
          | some i =>
            have HO := Lib.hid (show ownL (lkN E k) who = [] ++ [x10] by rw [ownL_lk, hl, hb, HX10.out, hb]; rfl)
            have q2 : (0 : Int) ≤ x10 := by rw [HX10.out, hb]; exact (bornN_lt hb).1
            clear hl hb
            go_wp2_with (first
              | (refine own_lit1 117 (x10) O rfl rfl rfl rfl ?_; clear O; intro W gl O K1 _; replace M := M.keeps K1 (by simp); clear K1; simp only [Act.put, List.setIfInBounds_toArray, List.set_cons_zero, List.set_cons_succ])
              | (at_builtin; refine own_app w.heap.size _ ([]) (x10) gl (.tmp 115) (.tmp 117) (O.drop_ 1) M rfl rfl rfl rfl ((O.get 0 rfl).cell 0) rfl (by simp [LI]) (by simp) ?_; clear O M; intro v1 W O M; simp only [List.drop] at O; simp only [Act.put, List.setIfInBounds_toArray, List.set_cons_zero, List.set_cons_succ]))
            go_meet
            exact ⟨O, by rw [HO.out]; exact M⟩
          | none =>
            have HO := Lib.hid (show ownL (lkN E k) who = [] by rw [ownL_lk, hl, hb])
            have q2 : ¬ (0 : Int) ≤ x10 := by rw [HX10.out, hb]; decide
            clear hl hb
            go_wp2
            go_meet
            exact ⟨O, by rw [HO.out]; exact M⟩
      case rest =>
        obtain ⟨O, M⟩ := hcut
        have HOL := Lib.hid (show (ownL (lkN E k) who).length ≤ 1 by rw [ownL_lk]; split <;> (try split) <;> simp)
        clear HX9 HX10
        by_cases o6 : op = 6
        · subst o6
          rcases Bool.eq_false_or_eq_true sh with hs | hs
          · subst hs
            have c7 : ∀ i : Nat, (wc).cell? ⟨g7, i, none⟩ = #[Value.int .i64 who, .int .i64 6, .int .i64 a, .int .i64 v, .bool true][i]? := (O.get 0 rfl).cell
            go_wp2
            clear c7
            go_loopg [8, 13] k (fun g s8 s13 wr => ∃ m, m ≤ k ∧ g = k - m ∧ s13 = .int .i64 (m : Int) ∧ Own w wr [] (LI S A c R d g7 a3 ⟨who, 6, a, v, true⟩) ∧ Mint w.heap.size wr s8 (ownL (lkN E k) who) ∧ shutN E a m = none)
            case atStart => exact ⟨0, by omega, by omega, rfl, O, M, rfl⟩
            case round =>
              obtain ⟨m, hm, hgk, rfl, O, M, hsn⟩ := hrel
              have HSN := Lib.hid hsn
              clear hsn
              have HG := Lib.hid hgk
              clear hgk
              by_cases hlt : m < k
              · have g2 : ((m : Int)) < k := by omega
                have g3 : ((m : Int)) < n := by omega
                have g4 : (0 : Int) ≤ m := by omega
                obtain ⟨ad', e', hc⟩ := EvsAt.row (u := w) HE.out (show m < n by omega)
                cases e'
                obtain ⟨f, hf⟩ : ∃ f, f = E m := ⟨_, rfl⟩
                rw [← hf] at hc
                have HCK := Lib.hid hc
                have HFM := Lib.hid hf
                clear hf hc
                obtain ⟨lw, lo, la, lv, ls⟩ := f
                have c1 : ∀ p : Later wr, p.1.cell? ⟨(ad.add (m * 5)).block, (ad.add (m * 5)).off + 1, none⟩ = some (.int .i64 lo) := fun p => HCK.out [] _ (O.keep.trans p.2 (by simp)) (by simp) 1 (by show 1 < 5; omega)
                have c2 : ∀ p : Later wr, p.1.cell? ⟨(ad.add (m * 5)).block, (ad.add (m * 5)).off + 2, none⟩ = some (.int .i64 la) := fun p => HCK.out [] _ (O.keep.trans p.2 (by simp)) (by simp) 2 (by show 2 < 5; omega)
                have c7 : ∀ (p : Later wr) (i : Nat), p.1.cell? ⟨g7, i, none⟩ = #[Value.int .i64 who, .int .i64 6, .int .i64 a, .int .i64 v, .bool true][i]? := Later.cell (O.get 0 rfl)
                by_cases h1 : lo = 7
                · have q1 : (lo == 7) = true := by simpa using h1
                  by_cases h2 : la = a
                  · have q2 : (la == a) = true := by simpa using h2
                    have HY := Lib.hid (And.intro h1 h2)
                    clear h1 h2
                    go_wp2
                    refine wp_quiet_later (by kernel_rfl) (by kernel_rfl) ?_
                    repeat (first
                      | go_big_quiet_skip
                      | go_big_quiet_step (fail))
                    refine wpQuiet_nil ?_
                    intro _ hw
                    obtain ⟨p', rfl⟩ := hw
                    replace O := O.keeps p'.2
                    replace M := M.keeps p'.2 (by simp)
                    clear c1 c2 c7
                    generalize p'.1 = W at O M ⊢
                    clear q1 q2
                    have HSF := Lib.hid (show shutN E a k = some (m : Int) from shutN_found HSN.out (by rw [← HFM.out]; exact HY.out.1) (by rw [← HFM.out]; exact HY.out.2) hlt)
                    have HRF := Lib.hid (show refM E (rmS S) k ⟨who, 6, a, v, true⟩ = [(m : Int)] by show (shutN E a k).toList = _; rw [HSF.out]; rfl)
                    have c7 : ∀ i : Nat, (W).cell? ⟨g7, i, none⟩ = #[Value.int .i64 who, .int .i64 6, .int .i64 a, .int .i64 v, .bool true][i]? := (O.get 0 rfl).cell
                    go_wp2_with (first
                      | (refine own_lit1 150 ((m : Int)) O rfl rfl rfl rfl ?_; clear O; intro W gl O K1 _; replace M := M.keeps K1 (by simp); clear K1; simp only [Act.put, List.setIfInBounds_toArray, List.set_cons_zero, List.set_cons_succ])
                      | (at_builtin; refine own_app w.heap.size _ ((ownL (lkN E k) who)) ((m : Int)) gl (.tmp 148) (.tmp 150) (O.drop_ 1) M rfl rfl rfl rfl ((O.get 0 rfl).cell 0) rfl (by simp [LI]) (by have := HOL.out; omega) ?_; clear O M; intro v1 W O M; simp only [List.drop] at O; simp only [Act.put, List.setIfInBounds_toArray, List.set_cons_zero, List.set_cons_succ]))
                    clear c7
                    have HXL := Lib.hid (show ((ownL (lkN E k) who) ++ [(m : Int)]).length ≤ 1000000 by have := HOL.out; rw [List.length_append]; simp; omega)
                    go_wp2_with (go_at_call 98; refine (rising_any _ ((ownL (lkN E k) who) ++ [(m : Int)]) HXL.out M.list).mono ?_; rintro e W ⟨⟨r, ys, rfl, MR, HR⟩, K⟩)
                    go_ret
                    refine ⟨⟨_, rfl, mint_low (b := w.heap.size) ?_ O.keep.size⟩, O.keep.trans K (by simp)⟩
                    have hfin := into_rose (E := E) (rm := rmS S) (j := k) (ys := ys) (by rw [← HEJ.out]; rw [show refM E (rmS S) k _ = _ from HRF.out]; exact HR) (fun h6 hs => ok_take HOK.out h6 hs) (fun h6 hs => ok_shut HOK.out h6 hs)
                    rw [← hfin]
                    exact MR
                  · have q2 : (la == a) = false := by simpa using h2
                    have HN := Lib.hid (show ¬ (lo = 7 ∧ la = a) from fun q => h2 q.2)
                    clear h1 h2
                    go_wp2
                    refine wp_quiet_later (by kernel_rfl) (by kernel_rfl) ?_
                    repeat (first
                      | go_big_quiet_skip
                      | go_big_quiet_step (fail))
                    refine wpQuiet_nil ?_
                    intro _ hw
                    obtain ⟨p', rfl⟩ := hw
                    replace O := O.keeps p'.2
                    replace M := M.keeps p'.2 (by simp)
                    clear c1 c2 c7
                    generalize p'.1 = W at O M ⊢
                    clear q1
                    go_wp2
                    go_roundg (k - (m + 1))
                    case measure => (have := HG.out; omega)
                    case rel => exact ⟨m + 1, by omega, rfl, by go_num, O, M, (by rw [shutN, if_neg (fun q => HN.out ⟨(by have := q.1; rw [← HFM.out] at this; exact this), (by have := q.2.1; rw [← HFM.out] at this; exact this)⟩)]; exact HSN.out)⟩
                · have q1 : (lo == 7) = false := by simpa using h1
                  have HN := Lib.hid (show ¬ (lo = 7 ∧ la = a) from fun q => h1 q.1)
                  clear h1
                  go_wp2
                  refine wp_quiet_later (by kernel_rfl) (by kernel_rfl) ?_
                  repeat (first
                    | go_big_quiet_skip
                    | go_big_quiet_step (fail))
                  refine wpQuiet_nil ?_
                  intro _ hw
                  obtain ⟨p', rfl⟩ := hw
                  replace O := O.keeps p'.2
                  replace M := M.keeps p'.2 (by simp)
                  clear c1 c2 c7
                  generalize p'.1 = W at O M ⊢
                  clear q1
                  go_wp2
                  go_roundg (k - (m + 1))
                  case measure => (have := HG.out; omega)
                  case rel => exact ⟨m + 1, by omega, rfl, by go_num, O, M, (by rw [shutN, if_neg (fun q => HN.out ⟨(by have := q.1; rw [← HFM.out] at this; exact this), (by have := q.2.1; rw [← HFM.out] at this; exact this)⟩)]; exact HSN.out)⟩
              · obtain rfl : k = m := by omega
                exfalso
                have h1 := ok_shut HOK.out (by rw [← HEJ.out]) (by rw [← HEJ.out])
                rw [← HEJ.out] at h1
                rw [HSN.out] at h1
                cases h1
          · subst hs
            have c7 : ∀ i : Nat, (wc).cell? ⟨g7, i, none⟩ = #[Value.int .i64 who, .int .i64 6, .int .i64 a, .int .i64 v, .bool false][i]? := (O.get 0 rfl).cell
            have HTK := Lib.hid (HNK.out.trans (by rw [samE_6 E _ rfl rfl]))
            have HRF := Lib.hid (show refM E (rmS S) k ⟨who, 6, a, v, false⟩ = [nthV (isSend E a) k nk] by rw [HTK.out]; rfl)
            obtain ⟨y, hy⟩ : ∃ y, y = nthV (isSend E a) k nk := ⟨_, rfl⟩
            have HY := Lib.hid hy
            clear hy
            have hnk2 : nk ≤ 1000000 := by omega
            go_wp2_with (first
              | go_big_skip
              | (go_at_call 97; refine (nth_5 (HE.out.kept O.keep) hn k (by omega) a nk hnk2).mono ?_; rintro e w' ⟨rfl, rfl⟩; rw [← HY.out])
              | (refine own_lit1 163 (y) O rfl rfl rfl rfl ?_; clear O; intro W gl O K1 _; replace M := M.keeps K1 (by simp); clear K1; simp only [Act.put, List.setIfInBounds_toArray, List.set_cons_zero, List.set_cons_succ])
              | (at_builtin; refine own_app w.heap.size _ ((ownL (lkN E k) who)) (y) gl (.tmp 156) (.tmp 163) (O.drop_ 1) M rfl rfl rfl rfl ((O.get 0 rfl).cell 0) rfl (by simp [LI]) (by have := HOL.out; omega) ?_; clear O M; intro v1 W O M; simp only [List.drop] at O; simp only [Act.put, List.setIfInBounds_toArray, List.set_cons_zero, List.set_cons_succ]))
            clear c7
            have HXL := Lib.hid (show ((ownL (lkN E k) who) ++ [y]).length ≤ 1000000 by have := HOL.out; rw [List.length_append]; simp; omega)
            go_wp2_with (go_at_call 98; refine (rising_any _ ((ownL (lkN E k) who) ++ [y]) HXL.out M.list).mono ?_; rintro e W ⟨⟨r, ys, rfl, MR, HR⟩, K⟩)
            go_ret
            refine ⟨⟨_, rfl, mint_low (b := w.heap.size) ?_ O.keep.size⟩, O.keep.trans K (by simp)⟩
            have hfin := into_rose (E := E) (rm := rmS S) (j := k) (ys := ys) (by rw [← HEJ.out]; rw [show refM E (rmS S) k _ = _ from HRF.out.trans (by rw [← HY.out])]; exact HR) (fun h6 hs => ok_take HOK.out h6 hs) (fun h6 hs => ok_shut HOK.out h6 hs)
            rw [← hfin]
            exact MR
        · by_cases o5 : op = 5
          · exfalso
            have := HOP.out
            omega
          · by_cases o8 : op = 8
            · exfalso
              have := HOP.out
              omega
            · by_cases o11 : op = 11
              · exfalso
                have := HOP.out
                omega
              · exfalso
                have := HOP.out
                omega
end
end Go.Proofs.Ytakmcpadkanggaa
namespace Go.Proofs.Ytakmcpadkanggaa
open Go.RowKit Go.Maps Go.Deep
section
variable {w : World} {S : Sys} {A : Option Addr} {c : Nat} {R : Option Addr} {d n : Nat} {E : Nat → Ev} {B : Option Addr} {cb : Nat}
set_option maxRecDepth 100000 in
set_option maxHeartbeats 4000000 in
theorem into_5 (hS : SysIn w S A c R d) (hE : EvsAt w B n E) (hn : n ≤ 40000) (hrm : ∀ q, q < S.nr → 1 ≤ S.rm q ∧ S.rm q ≤ 1000000) (j : Nat) (hj : j < n) (hok : okE S (stN E j) (E j) = true) (hop : (E j).op = 5) : Calls Try.prog 71 #[.agg (sysV S A c R d), .slice B n cb, .int .i64 (j : Int)] w (IntoPost w S E j) := by
  have O := Own.start w []
  have HE := Lib.hid hE
  have g1 : ((j : Nat) : Int) < n := by omega
  have g0 : (0 : Int) ≤ j := by omega
  obtain ⟨ad, rfl, hc⟩ := EvsAt.row (u := w) HE.out hj
  have HC := Lib.hid hc
  obtain ⟨e, he⟩ : ∃ e, e = E j := ⟨_, rfl⟩
  rw [← he] at hc HC hop
  have HEJ := Lib.hid he
  have HRO := Lib.hid hS.rooms
  have HRM := Lib.hid hrm
  have HOK := Lib.hid hok
  clear hc hE he hS hrm hok
  obtain ⟨who, op, a, v, sh⟩ := e
  have HOP := Lib.hid hop
  clear hop
  go_enter Try.func71, Try.ntmps71
  go_wp2_with (first
    | go_big_skip
    | (refine own_box 3 (sysV S A c R d) O rfl rfl rfl rfl ?_; clear O; intro W a3 O; simp only [Act.put, List.setIfInBounds_toArray, List.set_cons_zero, List.set_cons_succ])
    | (refine wpList_load_at 21 rfl rfl rfl rfl (HC.out [] _ O.keep (by simp)) Try.underlying37 rfl (by kernel_rfl) ?_; simp only [Act.put, List.setIfInBounds_toArray, List.set_cons_zero, List.set_cons_succ])
    | (refine own_alloc 7 (evC ⟨0, 0, 0, 0, false⟩) O rfl rfl rfl (fun _ => by kernel_rfl) ?_; clear O; intro W g7 O; simp only [Act.put, List.setIfInBounds_toArray, List.set_cons_zero, List.set_cons_succ])
    | (refine own_store_row 0 (.tmp 7) (.tmp 21) O rfl rfl rfl rfl rfl rfl (by kernel_rfl) (by rfl) (evC_cell _) ?_; clear O; intro W O; simp only [List.set_cons_zero] at O))
  go_loopg [9, 10, 11, 12] j (fun g s9 s10 s11 s12 wr => ∃ k, k ≤ j ∧ g = j - k ∧ s12 = .int .i64 (k : Int) ∧ s9 = .int .i64 (oI (lastN E who k)) ∧ s10 = .int .i64 (oI (bornN E who k)) ∧ s11 = .int .i64 ((pickL (samE E ⟨who, op, a, v, sh⟩) k).length : Int) ∧ Own w wr [] (LI S A c R d g7 a3 ⟨who, op, a, v, sh⟩))
  case atStart => exact ⟨0, by omega, by omega, rfl, rfl, rfl, rfl, O⟩
  case round =>
    obtain ⟨k, hk, hgk, rfl, rfl, rfl, rfl, O⟩ := hrel
    have HG := Lib.hid hgk
    clear hgk
    by_cases hlt : k < j
    · have g2 : ((k : Int)) < j := by omega
      have g3 : ((k : Int)) < n := by omega
      have g4 : (0 : Int) ≤ k := by omega
      obtain ⟨ad', e', hc⟩ := EvsAt.row (u := w) HE.out (show k < n by omega)
      cases e'
      obtain ⟨f, hf⟩ : ∃ f, f = E k := ⟨_, rfl⟩
      rw [← hf] at hc
      have HCK := Lib.hid hc
      have HLN := Lib.hid (show lastN E who (k + 1) = if f.who = who then some (k : Int) else lastN E who k by rw [hf]; rfl)
      have HBN := Lib.hid (show bornN E who (k + 1) = if f.op = 14 ∧ 0 < f.v ∧ f.v = who then some (k : Int) else bornN E who k by rw [hf]; rfl)
      have HSM := Lib.hid (show samE E ⟨who, op, a, v, sh⟩ k = ((((op == 5) && (f.op == 5)) || ((op == 6) && (!sh && ((f.op == 6) && !f.sh)))) && (f.a == a)) by rw [hf]; rfl)
      have HPL := Lib.hid (show (pickL (samE E ⟨who, op, a, v, sh⟩) (k + 1)).length = (pickL (samE E ⟨who, op, a, v, sh⟩) k).length + if samE E ⟨who, op, a, v, sh⟩ k then 1 else 0 by rw [pickL_succ, List.length_append]; split <;> rfl)
      have hpl := pickL_length (samE E ⟨who, op, a, v, sh⟩) k
      generalize samE E ⟨who, op, a, v, sh⟩ k = sm at HSM HPL
      generalize hnk : (pickL (samE E ⟨who, op, a, v, sh⟩) k).length = nk at hpl HPL ⊢
      clear hf hc hnk
      obtain ⟨lw, lo, la, lv, ls⟩ := f
      have c0 : ∀ p : Later wr, p.1.cell? (ad.add (k * 5)) = some (.int .i64 lw) := fun p => HCK.out [] _ (O.keep.trans p.2 (by simp)) (by simp) 0 (by show 0 < 5; omega)
      have c1 : ∀ p : Later wr, p.1.cell? ⟨(ad.add (k * 5)).block, (ad.add (k * 5)).off + 1, none⟩ = some (.int .i64 lo) := fun p => HCK.out [] _ (O.keep.trans p.2 (by simp)) (by simp) 1 (by show 1 < 5; omega)
      have c2 : ∀ p : Later wr, p.1.cell? ⟨(ad.add (k * 5)).block, (ad.add (k * 5)).off + 2, none⟩ = some (.int .i64 la) := fun p => HCK.out [] _ (O.keep.trans p.2 (by simp)) (by simp) 2 (by show 2 < 5; omega)
      have c3 : ∀ p : Later wr, p.1.cell? ⟨(ad.add (k * 5)).block, (ad.add (k * 5)).off + 3, none⟩ = some (.int .i64 lv) := fun p => HCK.out [] _ (O.keep.trans p.2 (by simp)) (by simp) 3 (by show 3 < 5; omega)
      have c4 : ∀ p : Later wr, p.1.cell? ⟨(ad.add (k * 5)).block, (ad.add (k * 5)).off + 4, none⟩ = some (.bool ls) := fun p => HCK.out [] _ (O.keep.trans p.2 (by simp)) (by simp) 4 (by show 4 < 5; omega)
      have c7 : ∀ (p : Later wr) (i : Nat), p.1.cell? ⟨g7, i, none⟩ = #[Value.int .i64 who, .int .i64 op, .int .i64 a, .int .i64 v, .bool sh][i]? := Later.cell (O.get 0 rfl)
      go_upto_region 9 with (fail)
      refine wp_quiet_later (by kernel_rfl) (by kernel_rfl) ?_
      repeat (first
        | go_big_quiet_skip
        | go_big_quiet_step (fail))
      refine wpQuiet_nil ?_
      intro _ hw
      obtain ⟨p', rfl⟩ := hw
      replace O := O.keeps p'.2
      clear c0 c1 c2 c3 c4 c7
      generalize p'.1 = W at O ⊢
      go_upto_if 34 with (fail)
      go_cut [9] (fun s9 wx => s9 = .int .i64 (oI (lastN E who (k + 1))) ∧ Own w wx [] (LI S A c R d g7 a3 ⟨who, op, a, v, sh⟩))
      case first =>
        by_cases h : lw = who
        · have e1 : (lw == who) = true := by simpa using h
          have HN := Lib.hid (HLN.out.trans (if_pos h))
          clear h
          go_wp2
          go_meet
          exact ⟨by rw [HN.out]; rfl, O⟩
        · have e1 : (lw == who) = false := by simpa using h
          have HN := Lib.hid (HLN.out.trans (if_neg h))
          clear h
          go_wp2
          go_meet
          exact ⟨by rw [HN.out], O⟩
      case rest =>
        obtain ⟨rfl, O⟩ := hcut
        clear HLN
        have c0 : ∀ p : Later wc, p.1.cell? (ad.add (k * 5)) = some (.int .i64 lw) := fun p => HCK.out [] _ (O.keep.trans p.2 (by simp)) (by simp) 0 (by show 0 < 5; omega)
        have c1 : ∀ p : Later wc, p.1.cell? ⟨(ad.add (k * 5)).block, (ad.add (k * 5)).off + 1, none⟩ = some (.int .i64 lo) := fun p => HCK.out [] _ (O.keep.trans p.2 (by simp)) (by simp) 1 (by show 1 < 5; omega)
        have c2 : ∀ p : Later wc, p.1.cell? ⟨(ad.add (k * 5)).block, (ad.add (k * 5)).off + 2, none⟩ = some (.int .i64 la) := fun p => HCK.out [] _ (O.keep.trans p.2 (by simp)) (by simp) 2 (by show 2 < 5; omega)
        have c3 : ∀ p : Later wc, p.1.cell? ⟨(ad.add (k * 5)).block, (ad.add (k * 5)).off + 3, none⟩ = some (.int .i64 lv) := fun p => HCK.out [] _ (O.keep.trans p.2 (by simp)) (by simp) 3 (by show 3 < 5; omega)
        have c4 : ∀ p : Later wc, p.1.cell? ⟨(ad.add (k * 5)).block, (ad.add (k * 5)).off + 4, none⟩ = some (.bool ls) := fun p => HCK.out [] _ (O.keep.trans p.2 (by simp)) (by simp) 4 (by show 4 < 5; omega)
        have c7 : ∀ (p : Later wc) (i : Nat), p.1.cell? ⟨g7, i, none⟩ = #[Value.int .i64 who, .int .i64 op, .int .i64 a, .int .i64 v, .bool sh][i]? := Later.cell (O.get 0 rfl)
        obtain ⟨bB, hbB⟩ : ∃ bB, bB = decide (lo = 14 ∧ 0 < lv ∧ lv = who) := ⟨_, rfl⟩
        have HBB := Lib.hid hbB
        clear hbB
        go_upto_region 11 with (fail)
        go_cut [56] (fun s wx => s = .bool bB ∧ Own w wx [] (LI S A c R d g7 a3 ⟨who, op, a, v, sh⟩))
        case first =>
          by_cases h1 : lo = 14
          · have qh1 : (lo == 14) = true := by simpa using h1
            by_cases h2 : lv = who
            · have qh2 : (lv == who) = true := by simpa using h2
              by_cases h3 : 0 < who
              · have qh3 : decide (0 < who) = true := decide_eq_true h3
                have HV := Lib.hid (show bB = true by rw [HBB.out]; simp [qh1, h1, qh2, h2, qh3, h3])
                clear h1 h2 h3
                refine wp_quiet_later (by kernel_rfl) (by kernel_rfl) ?_
                repeat (first
                  | go_big_quiet_skip
                  | go_big_quiet_step (fail))
                refine wpQuiet_nil ?_
                intro _ hw
                obtain ⟨p', rfl⟩ := hw
                replace O := O.keeps p'.2
                clear c0 c1 c2 c3 c4 c7 qh1 qh2 qh3
                generalize p'.1 = W at O ⊢
                go_wp2
                go_meet
                exact ⟨by rw [HV.out], O⟩
              · have qh3 : decide (0 < who) = false := decide_eq_false h3
                have HV := Lib.hid (show bB = false by rw [HBB.out]; simp [qh1, h1, qh2, h2, qh3, h3])
                clear h1 h2 h3
                refine wp_quiet_later (by kernel_rfl) (by kernel_rfl) ?_
                repeat (first
                  | go_big_quiet_skip
                  | go_big_quiet_step (fail))
                refine wpQuiet_nil ?_
                intro _ hw
                obtain ⟨p', rfl⟩ := hw
                replace O := O.keeps p'.2
                clear c0 c1 c2 c3 c4 c7 qh1 qh2 qh3
                generalize p'.1 = W at O ⊢
                go_wp2
                go_meet
                exact ⟨by rw [HV.out], O⟩
            · have qh2 : (lv == who) = false := by simpa using h2
              have HV := Lib.hid (show bB = false by rw [HBB.out]; simp [qh1, h1, qh2, h2])
              clear h1 h2
              refine wp_quiet_later (by kernel_rfl) (by kernel_rfl) ?_
              repeat (first
                | go_big_quiet_skip
                | go_big_quiet_step (fail))
              refine wpQuiet_nil ?_
              intro _ hw
              obtain ⟨p', rfl⟩ := hw
              replace O := O.keeps p'.2
              clear c0 c1 c2 c3 c4 c7 qh1 qh2
              generalize p'.1 = W at O ⊢
              go_wp2
              go_meet
              exact ⟨by rw [HV.out], O⟩
          · have qh1 : (lo == 14) = false := by simpa using h1
            have HV := Lib.hid (show bB = false by rw [HBB.out]; simp [qh1, h1])
            clear h1
            refine wp_quiet_later (by kernel_rfl) (by kernel_rfl) ?_
            repeat (first
              | go_big_quiet_skip
              | go_big_quiet_step (fail))
            refine wpQuiet_nil ?_
            intro _ hw
            obtain ⟨p', rfl⟩ := hw
            replace O := O.keeps p'.2
            clear c0 c1 c2 c3 c4 c7 qh1
            generalize p'.1 = W at O ⊢
            go_wp2
            go_meet
            exact ⟨by rw [HV.out], O⟩
        case rest =>
          obtain ⟨rfl, O⟩ := hcut
          clear c0 c1 c2 c3 c4 c7
          go_upto_if 56 with (fail)
          go_cut [10] (fun s10 wx => s10 = .int .i64 (oI (bornN E who (k + 1))) ∧ Own w wx [] (LI S A c R d g7 a3 ⟨who, op, a, v, sh⟩))
          case first =>
            cases bB with
            | true =>
              have HN := Lib.hid (HBN.out.trans (if_pos (of_decide_eq_true HBB.out.symm)))
              go_wp2
              go_meet
              exact ⟨by rw [HN.out]; rfl, O⟩
            | false =>
              have HN := Lib.hid (HBN.out.trans (if_neg (of_decide_eq_false HBB.out.symm)))
              go_wp2
              go_meet
              exact ⟨by rw [HN.out], O⟩
          case rest =>
            obtain ⟨rfl, O⟩ := hcut
            clear HBN HBB
            have c0 : ∀ p : Later wc, p.1.cell? (ad.add (k * 5)) = some (.int .i64 lw) := fun p => HCK.out [] _ (O.keep.trans p.2 (by simp)) (by simp) 0 (by show 0 < 5; omega)
            have c1 : ∀ p : Later wc, p.1.cell? ⟨(ad.add (k * 5)).block, (ad.add (k * 5)).off + 1, none⟩ = some (.int .i64 lo) := fun p => HCK.out [] _ (O.keep.trans p.2 (by simp)) (by simp) 1 (by show 1 < 5; omega)
            have c2 : ∀ p : Later wc, p.1.cell? ⟨(ad.add (k * 5)).block, (ad.add (k * 5)).off + 2, none⟩ = some (.int .i64 la) := fun p => HCK.out [] _ (O.keep.trans p.2 (by simp)) (by simp) 2 (by show 2 < 5; omega)
            have c3 : ∀ p : Later wc, p.1.cell? ⟨(ad.add (k * 5)).block, (ad.add (k * 5)).off + 3, none⟩ = some (.int .i64 lv) := fun p => HCK.out [] _ (O.keep.trans p.2 (by simp)) (by simp) 3 (by show 3 < 5; omega)
            have c4 : ∀ p : Later wc, p.1.cell? ⟨(ad.add (k * 5)).block, (ad.add (k * 5)).off + 4, none⟩ = some (.bool ls) := fun p => HCK.out [] _ (O.keep.trans p.2 (by simp)) (by simp) 4 (by show 4 < 5; omega)
            have c7 : ∀ (p : Later wc) (i : Nat), p.1.cell? ⟨g7, i, none⟩ = #[Value.int .i64 who, .int .i64 op, .int .i64 a, .int .i64 v, .bool sh][i]? := Later.cell (O.get 0 rfl)
            go_upto_region 13 with (fail)
            go_cut [104] (fun s wx => s = .bool sm ∧ Own w wx [] (LI S A c R d g7 a3 ⟨who, op, a, v, sh⟩))
            case first =>
              have q1 : (op == 5) = true := by have h := HOP.out; simpa using h
              by_cases h2 : lo = 5
              · have qh2 : (lo == 5) = true := by simpa using h2
                by_cases h7 : la = a
                · have qh7 : (la == a) = true := by simpa using h7
                  have HV := Lib.hid (show sm = true by rw [HSM.out]; simp [q1, qh2, h2, qh7, h7])
                  clear h2 h7
                  refine wp_quiet_later (by kernel_rfl) (by kernel_rfl) ?_
                  repeat (first
                    | go_big_quiet_skip
                    | go_big_quiet_step (fail))
                  refine wpQuiet_nil ?_
                  intro _ hw
                  obtain ⟨p', rfl⟩ := hw
                  replace O := O.keeps p'.2
                  clear c0 c1 c2 c3 c4 c7 q1 qh2 qh7
                  generalize p'.1 = W at O ⊢
                  go_wp2
                  go_meet
                  exact ⟨by rw [HV.out], O⟩
                · have qh7 : (la == a) = false := by simpa using h7
                  have HV := Lib.hid (show sm = false by rw [HSM.out]; simp [q1, qh2, h2, qh7, h7])
                  clear h2 h7
                  refine wp_quiet_later (by kernel_rfl) (by kernel_rfl) ?_
                  repeat (first
                    | go_big_quiet_skip
                    | go_big_quiet_step (fail))
                  refine wpQuiet_nil ?_
                  intro _ hw
                  obtain ⟨p', rfl⟩ := hw
                  replace O := O.keeps p'.2
                  clear c0 c1 c2 c3 c4 c7 q1 qh2 qh7
                  generalize p'.1 = W at O ⊢
                  go_wp2
                  go_meet
                  exact ⟨by rw [HV.out], O⟩
              · have qh2 : (lo == 5) = false := by simpa using h2
                have q3 : (op == 6) = false := by have h := HOP.out; simpa using (show ¬ op = 6 by omega)
                have HV := Lib.hid (show sm = false by rw [HSM.out]; simp [q1, qh2, h2, q3])
                clear h2
                refine wp_quiet_later (by kernel_rfl) (by kernel_rfl) ?_
                repeat (first
                  | go_big_quiet_skip
                  | go_big_quiet_step (fail))
                refine wpQuiet_nil ?_
                intro _ hw
                obtain ⟨p', rfl⟩ := hw
                replace O := O.keeps p'.2
                clear c0 c1 c2 c3 c4 c7 q1 qh2 q3
                generalize p'.1 = W at O ⊢
                go_wp2
                go_meet
                exact ⟨by rw [HV.out], O⟩
            case rest =>
              obtain ⟨rfl, O⟩ := hcut
              clear c0 c1 c2 c3 c4 c7 HSM
              cases sm with
              | true =>
                go_wp2
                go_roundg (j - (k + 1))
                case measure => (have := HG.out; omega)
                case rel => exact ⟨k + 1, by omega, rfl, by go_num, rfl, rfl, by rw [HPL.out]; go_num, O⟩
              | false =>
                go_wp2
                go_roundg (j - (k + 1))
                case measure => (have := HG.out; omega)
                case rel => exact ⟨k + 1, by omega, rfl, by go_num, rfl, rfl, by rw [HPL.out]; rfl, O⟩
    · obtain rfl : k = j := by omega
      clear HG g1
      obtain ⟨x9, hx9⟩ : ∃ x, x = oI (lastN E who k) := ⟨_, rfl⟩
      obtain ⟨x10, hx10⟩ : ∃ x, x = oI (bornN E who k) := ⟨_, rfl⟩
      obtain ⟨nk, hnk⟩ : ∃ x, x = (pickL (samE E ⟨who, op, a, v, sh⟩) k).length := ⟨_, rfl⟩
      rw [← hx9, ← hx10, ← hnk]
      have HNK := Lib.hid hnk
      have HX9 := Lib.hid hx9
      have HX10 := Lib.hid hx10
      have hnkk : nk ≤ k := by rw [hnk]; exact pickL_length _ _
      clear hx9 hx10 hnk
      go_upto_if 108 with (fail)
      go_cut [8] (fun s8 wx => Own w wx [] (LI S A c R d g7 a3 ⟨who, op, a, v, sh⟩) ∧ Mint w.heap.size wx s8 (ownL (lkN E k) who))
      case first =>
        have M := Mint.nil w.heap.size wr
        cases hl : lastN E who k with
        | some i =>
          have HO := Lib.hid (show ownL (lkN E k) who = [] ++ [x9] by rw [ownL_lk, hl, HX9.out, hl]; rfl)
          have q1 : (0 : Int) ≤ x9 := by rw [HX9.out, hl]; exact (lastN_lt hl).1
          clear hl
          go_wp2_with (first
            | (refine own_lit1 111 (x9) O rfl rfl rfl rfl ?_; clear O; intro W gl O K1 _; replace M := M.keeps K1 (by simp); clear K1; simp only [Act.put, List.setIfInBounds_toArray, List.set_cons_zero, List.set_cons_succ])
            | (at_builtin; refine own_app w.heap.size _ ([]) (x9) gl (.tmp 109) (.tmp 111) (O.drop_ 1) M rfl rfl rfl rfl ((O.get 0 rfl).cell 0) rfl (by simp [LI]) (by simp) ?_; clear O M; intro v1 W O M; simp only [List.drop] at O; simp only [Act.put, List.setIfInBounds_toArray, List.set_cons_zero, List.set_cons_succ]))
          go_meet
          exact ⟨O, by rw [HO.out]; exact M⟩
        | none =>
          have q1 : ¬ (0 : Int) ≤ x9 := by rw [HX9.out, hl]; decide
          cases hb : bornN E who k with
          | some i =>
            have HO := Lib.hid (show ownL (lkN E k) who = [] ++ [x10] by rw [ownL_lk, hl, hb, HX10.out, hb]; rfl)
            have q2 : (0 : Int) ≤ x10 := by rw [HX10.out, hb]; exact (bornN_lt hb).1
            clear hl hb
            go_wp2_with (first
              | (refine own_lit1 117 (x10) O rfl rfl rfl rfl ?_; clear O; intro W gl O K1 _; replace M := M.keeps K1 (by simp); clear K1; simp only [Act.put, List.setIfInBounds_toArray, List.set_cons_zero, List.set_cons_succ])
              | (at_builtin; refine own_app w.heap.size _ ([]) (x10) gl (.tmp 115) (.tmp 117) (O.drop_ 1) M rfl rfl rfl rfl ((O.get 0 rfl).cell 0) rfl (by simp [LI]) (by simp) ?_; clear O M; intro v1 W O M; simp only [List.drop] at O; simp only [Act.put, List.setIfInBounds_toArray, List.set_cons_zero, List.set_cons_succ]))
            go_meet
            exact ⟨O, by rw [HO.out]; exact M⟩
          | none =>
            have HO := Lib.hid (show ownL (lkN E k) who = [] by rw [ownL_lk, hl, hb])
            have q2 : ¬ (0 : Int) ≤ x10 := by rw [HX10.out, hb]; decide
            clear hl hb
            go_wp2
            go_meet
            exact ⟨O, by rw [HO.out]; exact M⟩
      case rest =>
        obtain ⟨O, M⟩ := hcut
        have HOL := Lib.hid (show (ownL (lkN E k) who).length ≤ 1 by rw [ownL_lk]; split <;> (try split) <;> simp)
        clear HX9 HX10
        by_cases o6 : op = 6
        · exfalso
          have := HOP.out
          omega
        · by_cases o5 : op = 5
          · subst o5
            have hro := HOK.out
            rw [← HEJ.out] at hro
            obtain ⟨ha0, ha1⟩ := ok_room hro
            obtain ⟨aN, rfl⟩ : ∃ aN : Nat, a = (aN : Int) := ⟨a.toNat, by omega⟩
            have haN : aN < S.nr := by omega
            obtain ⟨rad, rfl, hrb, hrc⟩ := HRO.out (by omega)
            have hr1 := HRM.out aN haN
            obtain ⟨rma, hrma⟩ : ∃ x, x = S.rm aN := ⟨_, rfl⟩
            have hrcN := hrc aN haN
            rw [← hrma] at hr1 hrcN
            have HRC := Lib.hid (show ∀ u, Keeps w u [] → u.cell? (rad.add aN) = some (.int .i64 rma) from fun u K => (K.cellAt (by rw [add_block]; exact hrb) (by simp)).trans hrcN)
            have HRMA := Lib.hid hrma
            have HSK := Lib.hid (HNK.out.trans (by rw [samE_5 E _ rfl]))
            have g9 : (0 : Int) ≤ (aN : Int) := by omega
            have g8 : (aN : Int) < (S.nr : Int) := by omega
            clear hro ha0 ha1 hrb hrc hrcN hrma haN
            have c7 : ∀ i : Nat, (wc).cell? ⟨g7, i, none⟩ = #[Value.int .i64 who, .int .i64 5, .int .i64 (aN : Int), .int .i64 v, .bool sh][i]? := (O.get 0 rfl).cell; have c3 : (wc).cell? ⟨a3, 1, none⟩ = some (.slice (some rad) S.nr d) := (O.get 1 rfl).cell 1; have cr : (wc).cell? (rad.add aN) = some (.int .i64 rma) := HRC.out _ O.keep
            by_cases hr : rma ≤ (nk : Int)
            · obtain ⟨q, hq⟩ : ∃ q : Nat, (nk : Int) - rma = (q : Int) := ⟨((nk : Int) - rma).toNat, by omega⟩
              have hq6 : q ≤ 1000000 := by omega
              have r1 : IntKind.i64.wrap ((nk : Int) - rma) = (q : Int) := by
                rw [hq]
                exact IntWalk.i64_in _ (by omega)
              have HRF := Lib.hid (show refM E (rmS S) k ⟨who, 5, (aN : Int), v, sh⟩ = [nthV (isTake E (aN : Int)) k q] by
                have h1 : (((pickL (isSend E (aN : Int)) k).length : Int) - rmS S (aN : Int)).toNat = q := by
                  rw [← HSK.out]; show ((nk : Int) - S.rm ((aN : Int)).toNat).toNat = q
                  rw [Int.toNat_natCast, ← HRMA.out, hq]; rfl
                unfold refM
                rw [if_neg (show ¬ (5 : Int) = 6 by decide), if_pos rfl, if_pos (by rw [← HSK.out]; show S.rm ((aN : Int)).toNat ≤ (nk : Int); rw [Int.toNat_natCast, ← HRMA.out]; exact hr), h1])
              have q1 : decide (rma ≤ (nk : Int)) = true := decide_eq_true hr
              obtain ⟨y, hy⟩ : ∃ y, y = nthV (isTake E (aN : Int)) k q := ⟨_, rfl⟩
              have HY := Lib.hid hy
              clear hy hq
              go_wp2_with (first | go_big_skip)
              clear c7 c3 cr q1
              refine wp_held (S := fun u => Own w u [] (LI S A c (some rad) d g7 a3 ⟨who, 5, (aN : Int), v, sh⟩)) 17 #[false, false, false, false, false, false, false, false, false, false, false, false, false, false, false, false, false] (by kernel_rfl) rfl rfl ?_
              replace O := O.drew
              replace M := M.keeps (Keeps.refl _ []).drew (by simp)
              refine seg_take (fuel := 4) (L' := #[true, true, true, true, true, true, true, true, true, true, true, true, true, false, false, false, false]) (by kernel_rfl) (fun _ _ _ _ _ _ h => h) (by first | exact O | exact O.drop_ 1) [0, 1, 2, 3, 4, 5, 6, 7, 8, 9, 10, 11, 12] [_, _, _, _, _, _, _, _, _, _, _, _, _] _ _ rfl (by kernel_rfl) ?_
              simp only [List.getElem_toArray, List.getElem_cons_zero, List.getElem_cons_succ]
              repeat (first
                | (refine take_pure (v := ?_) (by rfl) ?_ ?_; rotate_left; (· (intro w hSw; have c7 : ∀ i : Nat, w.cell? ⟨g7, i, none⟩ = #[Value.int .i64 who, .int .i64 5, .int .i64 (aN : Int), .int .i64 v, .bool sh][i]? := (Own.get hSw 0 rfl).cell; have c3 : w.cell? ⟨a3, 1, none⟩ = some (.slice (some rad) S.nr d) := (Own.get hSw 1 rfl).cell 1; have cr := HRC.out _ (Own.keep hSw); clear hSw; go_simp; try with_reducible rfl)); simp only [Act.put, List.setIfInBounds_toArray, List.set_cons_zero, List.set_cons_succ]))
              refine take_done ?_
              refine seg_sole 13 #[true, true, true, true, true, true, true, true, true, true, true, true, true, true, false, false, false] rfl (by kernel_rfl) ?_
              try simp only [List.getElem_toArray, List.getElem_cons_zero, List.getElem_cons_succ]
              go_wp2_with (go_at_call 97; refine (nth_6 (HE.out.kept O.keep) hn k (by omega) (aN : Int) q hq6).mono ?_; rintro e w' ⟨rfl, rfl⟩; rw [← HY.out])
              (first | refine back_intro2 (by first | exact O | exact O.drop_ 1) ?_ | refine back_intro (by first | exact O | exact O.drop_ 1) ?_)
              refine seg_sole 14 #[true, true, true, true, true, true, true, true, true, true, true, true, true, true, true, false, false] rfl (by kernel_rfl) ?_
              try simp only [List.getElem_toArray, List.getElem_cons_zero, List.getElem_cons_succ]
              go_wp2_with (refine own_lit1 193 (y) O rfl rfl rfl rfl ?_; clear O; intro W gl O K1 _; replace M := M.keeps K1 (by simp); clear K1; simp only [Act.put, List.setIfInBounds_toArray, List.set_cons_zero, List.set_cons_succ])
              (first | refine back_intro2 (by first | exact O | exact O.drop_ 1) ?_ | refine back_intro (by first | exact O | exact O.drop_ 1) ?_)
              refine seg_sole 15 #[true, true, true, true, true, true, true, true, true, true, true, true, true, true, true, true, false] rfl (by kernel_rfl) ?_
              try simp only [List.getElem_toArray, List.getElem_cons_zero, List.getElem_cons_succ]
              go_wp2_with (at_builtin; refine own_app w.heap.size _ ((ownL (lkN E k) who)) (y) gl (.tmp 179) (.tmp 193) (O.drop_ 1) M rfl rfl rfl rfl ((O.get 0 rfl).cell 0) rfl (by simp [LI]) (by have := HOL.out; omega) ?_; clear O M; intro v1 W O M; simp only [List.drop] at O; simp only [Act.put, List.setIfInBounds_toArray, List.set_cons_zero, List.set_cons_succ])
              (first | refine back_intro2 (by first | exact O | exact O.drop_ 1) ?_ | refine back_intro (by first | exact O | exact O.drop_ 1) ?_)
              refine seg_take (fuel := 0) (L' := #[true, true, true, true, true, true, true, true, true, true, true, true, true, true, true, true, true]) (by kernel_rfl) (fun _ _ _ _ _ _ h => h) (by first | exact O | exact O.drop_ 1) [16] [_] _ _ rfl (by kernel_rfl) ?_
              simp only [List.getElem_toArray, List.getElem_cons_zero, List.getElem_cons_succ]
              repeat (first
                | (refine take_pure (v := ?_) (by rfl) ?_ ?_; rotate_left; (· (intro w hSw; have c7 : ∀ i : Nat, w.cell? ⟨g7, i, none⟩ = #[Value.int .i64 who, .int .i64 5, .int .i64 (aN : Int), .int .i64 v, .bool sh][i]? := (Own.get hSw 0 rfl).cell; have c3 : w.cell? ⟨a3, 1, none⟩ = some (.slice (some rad) S.nr d) := (Own.get hSw 1 rfl).cell 1; have cr := HRC.out _ (Own.keep hSw); clear hSw; go_simp; try with_reducible rfl)); simp only [Act.put, List.setIfInBounds_toArray, List.set_cons_zero, List.set_cons_succ]))
              refine take_done ?_
              refine seg_done (by kernel_rfl) ?_
              clear r1
              have HXL := Lib.hid (show ((ownL (lkN E k) who) ++ [y]).length ≤ 1000000 by have := HOL.out; rw [List.length_append]; simp; omega)
              go_wp2_with (go_at_call 98; refine (rising_any _ ((ownL (lkN E k) who) ++ [y]) HXL.out M.list).mono ?_; rintro e W ⟨⟨r, ys, rfl, MR, HR⟩, K⟩)
              go_ret
              refine ⟨⟨_, rfl, mint_low (b := w.heap.size) ?_ O.keep.size⟩, O.keep.trans K (by simp)⟩
              have hfin := into_rose (E := E) (rm := rmS S) (j := k) (ys := ys) (by rw [← HEJ.out]; rw [show refM E (rmS S) k _ = _ from HRF.out.trans (by rw [← HY.out])]; exact HR) (fun h6 hs => ok_take HOK.out h6 hs) (fun h6 hs => ok_shut HOK.out h6 hs)
              rw [← hfin]
              exact MR
            · have HRF := Lib.hid (show refM E (rmS S) k ⟨who, 5, (aN : Int), v, sh⟩ = [] by
                unfold refM
                rw [if_neg (show ¬ (5 : Int) = 6 by decide), if_pos rfl, if_neg (by rw [← HSK.out]; show ¬ S.rm ((aN : Int)).toNat ≤ (nk : Int); rw [Int.toNat_natCast, ← HRMA.out]; exact hr)])
              have q1 : decide (rma ≤ (nk : Int)) = false := decide_eq_false hr
              have q2 : ¬ rma ≤ (nk : Int) := hr
              rw [← List.append_nil (ownL (lkN E k) who)] at M
              have HXL := Lib.hid (show ((ownL (lkN E k) who) ++ []).length ≤ 1000000 by have := HOL.out; rw [List.append_nil]; omega)
              go_wp2_with (first | go_big_skip | go_at_call 98; refine (rising_any _ ((ownL (lkN E k) who) ++ []) HXL.out M.list).mono ?_; rintro e W ⟨⟨r, ys, rfl, MR, HR⟩, K⟩)
              go_ret
              refine ⟨⟨_, rfl, mint_low (b := w.heap.size) ?_ O.keep.size⟩, O.keep.trans K (by simp)⟩
              have hfin := into_rose (E := E) (rm := rmS S) (j := k) (ys := ys) (by rw [← HEJ.out]; rw [show refM E (rmS S) k _ = _ from HRF.out]; exact HR) (fun h6 hs => ok_take HOK.out h6 hs) (fun h6 hs => ok_shut HOK.out h6 hs)
              rw [← hfin]
              exact MR
          · by_cases o8 : op = 8
            · exfalso
              have := HOP.out
              omega
            · by_cases o11 : op = 11
              · exfalso
                have := HOP.out
                omega
              · exfalso
                have := HOP.out
                omega
end
end Go.Proofs.Ytakmcpadkanggaa

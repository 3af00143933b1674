/-
  Part 5 of what this claim rests on.
-/
import Derived.Test.YtakmcpadkanggaaRc4
namespace Go.Proofs.Ytakmcpadkanggaa
open Go.RowKit Go.Maps Go.Deep
section
variable {w : World}
def NotIn (xs : List Int) (x : Int) (k : Nat) : Prop := ∀ j, j < k → xs.getD j 0 ≠ x
theorem notIn_end {xs : List Int} {x : Int} (h : NotIn xs x xs.length) : decide (x ∈ xs) = false := by
  refine decide_eq_false fun hm => ?_
  obtain ⟨j, hj, e⟩ := List.getElem_of_mem hm
  exact h j hj (by rw [List.getD_eq_getElem?_getD, List.getElem?_eq_getElem hj]; exact e)
theorem in_at {xs : List Int} {x : Int} {k : Nat} (hk : k < xs.length) (h : xs.getD k 0 = x) : decide (x ∈ xs) = true := by
  refine decide_eq_true ?_
  rw [← h, List.getD_eq_getElem?_getD, List.getElem?_eq_getElem hk]
  exact List.getElem_mem hk
set_option maxRecDepth 100000 in
theorem within_any (v : Value) (xs : List Int) (x : Int) (b : Bool) (hn : xs.length ≤ 5000000) (hI : IntL w v xs) (hb : decide (x ∈ xs) = b) : Calls Try.prog 82 #[v, .int .i64 x] w fun e w' => e = .returned (.bool b) ∧ w = w' := by
  obtain ⟨A, c, rfl, hx⟩ := hI
  obtain ⟨m, hl⟩ : ∃ m, xs.length = m := ⟨_, rfl⟩
  have HX := Lib.hid hx
  have HB := Lib.hid hb
  have HL := Lib.hid hl
  rw [hl] at hn ⊢
  clear hx hb hl
  go_enter Try.func82, Try.ntmps82
  go_wp2
  go_loop [5] (fun i => ∃ k : Nat, k ≤ m ∧ i = .int .i64 k ∧ NotIn xs x k) (fun i => m - (intOf i).toNat)
  case atStart => exact ⟨0, by omega, rfl, fun j hj => by omega⟩
  case round =>
    obtain ⟨k, hk, rfl, hN⟩ := hrel
    by_cases hlt : k < m
    · have g1 : ((k : Int)) < m := by omega
      have g0 : (0 : Int) ≤ k := by omega
      have HK := Lib.hid (show k < xs.length by rw [HL.out]; exact hlt)
      obtain ⟨ad, rfl, _, hc⟩ := HX.out (by have := HK.out; omega)
      have c1 := hc k HK.out
      have HN := Lib.hid hN
      clear hc hN
      by_cases he : xs.getD k 0 = x
      · have HT := Lib.hid (HB.out.symm.trans (in_at HK.out he))
        rw [he] at c1
        clear he
        go_wp2
        go_ret
        exact ⟨by rw [HT.out]; rfl, rfl⟩
      · have HE := Lib.hid he
        have e1 : (xs.getD k 0 == x) = false := by simpa using he
        clear he
        obtain ⟨y, hy⟩ : ∃ y, y = xs.getD k 0 := ⟨_, rfl⟩
        rw [← hy] at c1 e1
        have HY := Lib.hid hy
        clear hy
        go_wp2
        clear c1 e1
        go_round
        case rel => exact ⟨k + 1, by omega, by go_num, fun j hj => by
          by_cases e : j = k
          · rw [e]; exact HE.out
          · exact HN.out j (by omega)⟩
        case measure => (simp [intOf] <;> omega)
    · obtain rfl : k = m := by omega
      have HT := Lib.hid (HB.out.symm.trans (notIn_end (by rw [HL.out]; exact hN)))
      clear hN
      go_wp2
      go_ret
      exact ⟨by rw [HT.out]; rfl, rfl⟩
end
/-- The answer of nth. -/
def nthV (p : Nat → Bool) (j m : Nat) : Int := match (pickL p j)[m]? with | some i => (i : Int) | none => -1
section
variable {w : World} {n : Nat} {E : Nat → Ev} {B : Option Addr} {cb : Nat}
set_option maxRecDepth 100000 in
set_option maxHeartbeats 1000000 in
theorem nth_5 (hE : EvsAt w B n E) (hn : n ≤ 40000) (j : Nat) (hj : j ≤ n) (q : Int) (m : Nat) (hm : m ≤ 1000000) : Calls Try.prog 97 #[.slice B n cb, .int .i64 (j : Int), .int .i64 5, .int .i64 q, .int .i64 (m : Int)] w fun e w' => e = .returned (.int .i64 (nthV (isSend E q) j m)) ∧ w = w' := by
  have HE := Lib.hid hE
  clear hE
  go_enter Try.func97, Try.ntmps97
  go_wp2
  go_loop [11, 4] (fun i x => ∃ k r : Nat, k ≤ j ∧ r + (pickL (isSend E q) k).length = m ∧ i = .int .i64 k ∧ x = .int .i64 r) (fun i _ => j - (intOf i).toNat)
  case atStart => exact ⟨0, m, by omega, by simp [pickL], rfl, rfl⟩
  case round =>
    obtain ⟨k, r, hk, hr, rfl, rfl⟩ := hrel
    have HR := Lib.hid hr
    have hrm : r ≤ m := by omega
    clear hr
    by_cases hlt : k < j
    · have g1 : ((k : Int)) < j := by omega
      have g2 : ((k : Int)) < n := by omega
      have g0 : (0 : Int) ≤ k := by omega
      obtain ⟨ad, rfl, hc⟩ := EvsAt.row (u := w) HE.out (show k < n by omega)
      have c1 : w.cell? ⟨(ad.add (k * 5)).block, (ad.add (k * 5)).off + 1, none⟩ = some (.int .i64 (E k).op) := hc [] w (Keeps.refl _ _) (by simp) 1 (by show 1 < 5; omega)
      have c2 : w.cell? ⟨(ad.add (k * 5)).block, (ad.add (k * 5)).off + 2, none⟩ = some (.int .i64 (E k).a) := hc [] w (Keeps.refl _ _) (by simp) 2 (by show 2 < 5; omega)
      have c4 : w.cell? ⟨(ad.add (k * 5)).block, (ad.add (k * 5)).off + 4, none⟩ = some (.bool (E k).sh) := hc [] w (Keeps.refl _ _) (by simp) 4 (by show 4 < 5; omega)
      clear hc
      by_cases ho : (E k).op = 5
      · by_cases ha : (E k).a = q
        · rw [ho] at c1
          rw [ha] at c2
          have hp : isSend E q k = true := by simp [isSend, ho, ha]
          clear ho ha
          by_cases h0 : r = 0
          · have HV := Lib.hid (show nthV (isSend E q) j m = (k : Int) by
              have h1 := pickL_at (isSend E q) hlt hp
              have h2 := HR.out
              rw [h0, Nat.zero_add] at h2
              unfold nthV
              rw [← h2, h1])
            subst h0
            clear hp
            go_wp2_with (first | go_big_skip)
            go_ret
            exact ⟨by rw [HV.out]; rfl, rfl⟩
          · have g4 : ¬ ((r : Int) = 0) := by omega
            have g5 : ((r : Int) == 0) = false := by simpa using g4
            have HN := Lib.hid (show (pickL (isSend E q) (k + 1)).length = (pickL (isSend E q) k).length + 1 by rw [pickL_succ, if_pos hp]; simp)
            have g6 : (1 : Int) ≤ r := by omega
            clear hp
            go_wp2_with (first | go_big_skip)
            clear c1 c2 c4 g4 g5
            go_round
            case rel => exact ⟨k + 1, r - 1, by omega, by rw [HN.out]; have := HR.out; omega, by go_num, by congr 1; omega⟩
            case measure => (simp [intOf] <;> omega)
        · have HN := Lib.hid (show (pickL (isSend E q) (k + 1)).length = (pickL (isSend E q) k).length by rw [pickL_succ, if_neg (by simp [isSend, ha]), List.append_nil])
          rw [ho] at c1
          have ea : ((E k).a == q) = false := by simpa using ha
          clear ho ha
          generalize (E k).a = a at c2 ea
          generalize (E k).sh = sh at c4
          go_wp2_with (first | go_big_skip)
          clear c1 c2 c4
          go_round
          case rel => exact ⟨k + 1, r, by omega, by rw [HN.out]; exact HR.out, by go_num, rfl⟩
          case measure => (simp [intOf] <;> omega)
      · have HN := Lib.hid (show (pickL (isSend E q) (k + 1)).length = (pickL (isSend E q) k).length by rw [pickL_succ, if_neg (by simp [isSend, ho]), List.append_nil])
        have ea : ((E k).op == 5) = false := by simpa using ho
        clear ho
        generalize (E k).op = op at c1 ea
        generalize (E k).a = a at c2
        generalize (E k).sh = sh at c4
        go_wp2_with (first | go_big_skip)
        clear c1 c2 c4
        go_round
        case rel => exact ⟨k + 1, r, by omega, by rw [HN.out]; exact HR.out, by go_num, rfl⟩
        case measure => (simp [intOf] <;> omega)
    · obtain rfl : k = j := by omega
      have HV := Lib.hid (show nthV (isSend E q) k m = -1 by
        unfold nthV
        rw [List.getElem?_eq_none (by have := HR.out; omega)])
      go_wp2
      go_ret
      exact ⟨by rw [HV.out]; rfl, rfl⟩
set_option maxRecDepth 100000 in
set_option maxHeartbeats 1000000 in
theorem nth_6 (hE : EvsAt w B n E) (hn : n ≤ 40000) (j : Nat) (hj : j ≤ n) (q : Int) (m : Nat) (hm : m ≤ 1000000) : Calls Try.prog 97 #[.slice B n cb, .int .i64 (j : Int), .int .i64 6, .int .i64 q, .int .i64 (m : Int)] w fun e w' => e = .returned (.int .i64 (nthV (isTake E q) j m)) ∧ w = w' := by
  have HE := Lib.hid hE
  clear hE
  go_enter Try.func97, Try.ntmps97
  go_wp2
  go_loop [11, 4] (fun i x => ∃ k r : Nat, k ≤ j ∧ r + (pickL (isTake E q) k).length = m ∧ i = .int .i64 k ∧ x = .int .i64 r) (fun i _ => j - (intOf i).toNat)
  case atStart => exact ⟨0, m, by omega, by simp [pickL], rfl, rfl⟩
  case round =>
    obtain ⟨k, r, hk, hr, rfl, rfl⟩ := hrel
    have HR := Lib.hid hr
    have hrm : r ≤ m := by omega
    clear hr
    by_cases hlt : k < j
    · have g1 : ((k : Int)) < j := by omega
      have g2 : ((k : Int)) < n := by omega
      have g0 : (0 : Int) ≤ k := by omega
      obtain ⟨ad, rfl, hc⟩ := EvsAt.row (u := w) HE.out (show k < n by omega)
      have c1 : w.cell? ⟨(ad.add (k * 5)).block, (ad.add (k * 5)).off + 1, none⟩ = some (.int .i64 (E k).op) := hc [] w (Keeps.refl _ _) (by simp) 1 (by show 1 < 5; omega)
      have c2 : w.cell? ⟨(ad.add (k * 5)).block, (ad.add (k * 5)).off + 2, none⟩ = some (.int .i64 (E k).a) := hc [] w (Keeps.refl _ _) (by simp) 2 (by show 2 < 5; omega)
      have c4 : w.cell? ⟨(ad.add (k * 5)).block, (ad.add (k * 5)).off + 4, none⟩ = some (.bool (E k).sh) := hc [] w (Keeps.refl _ _) (by simp) 4 (by show 4 < 5; omega)
      clear hc
      by_cases ho : (E k).op = 6
      · by_cases ha : (E k).a = q
        · rw [ho] at c1
          rw [ha] at c2
          cases hs : (E k).sh with
          | true =>
            rw [hs] at c4
            have HN := Lib.hid (show (pickL (isTake E q) (k + 1)).length = (pickL (isTake E q) k).length by rw [pickL_succ, if_neg (by simp [isTake, hs]), List.append_nil])
            clear ho ha hs
            go_wp2_with (first | go_big_skip)
            clear c1 c2 c4
            go_round
            case rel => exact ⟨k + 1, r, by omega, by rw [HN.out]; exact HR.out, by go_num, rfl⟩
            case measure => (simp [intOf] <;> omega)
          | false =>
            rw [hs] at c4
            have hp : isTake E q k = true := by simp [isTake, ho, ha, hs]
            clear ho ha hs
            by_cases h0 : r = 0
            · have HV := Lib.hid (show nthV (isTake E q) j m = (k : Int) by
                have h1 := pickL_at (isTake E q) hlt hp
                have h2 := HR.out
                rw [h0, Nat.zero_add] at h2
                unfold nthV
                rw [← h2, h1])
              subst h0
              clear hp
              go_wp2_with (first | go_big_skip)
              go_ret
              exact ⟨by rw [HV.out]; rfl, rfl⟩
            · have g4 : ¬ ((r : Int) = 0) := by omega
              have g5 : ((r : Int) == 0) = false := by simpa using g4
              have HN := Lib.hid (show (pickL (isTake E q) (k + 1)).length = (pickL (isTake E q) k).length + 1 by rw [pickL_succ, if_pos hp]; simp)
              have g6 : (1 : Int) ≤ r := by omega
              clear hp
              go_wp2_with (first | go_big_skip)
              clear c1 c2 c4 g4 g5
              go_round
              case rel => exact ⟨k + 1, r - 1, by omega, by rw [HN.out]; have := HR.out; omega, by go_num, by congr 1; omega⟩
              case measure => (simp [intOf] <;> omega)
        · have HN := Lib.hid (show (pickL (isTake E q) (k + 1)).length = (pickL (isTake E q) k).length by rw [pickL_succ, if_neg (by simp [isTake, ha]), List.append_nil])
          rw [ho] at c1
          have ea : ((E k).a == q) = false := by simpa using ha
          clear ho ha
          generalize (E k).a = a at c2 ea
          generalize (E k).sh = sh at c4
          go_wp2_with (first | go_big_skip)
          clear c1 c2 c4
          go_round
          case rel => exact ⟨k + 1, r, by omega, by rw [HN.out]; exact HR.out, by go_num, rfl⟩
          case measure => (simp [intOf] <;> omega)
      · have HN := Lib.hid (show (pickL (isTake E q) (k + 1)).length = (pickL (isTake E q) k).length by rw [pickL_succ, if_neg (by simp [isTake, ho]), List.append_nil])
        have ea : ((E k).op == 6) = false := by simpa using ho
        clear ho
        generalize (E k).op = op at c1 ea
        generalize (E k).a = a at c2
        generalize (E k).sh = sh at c4
        go_wp2_with (first | go_big_skip)
        clear c1 c2 c4
        go_round
        case rel => exact ⟨k + 1, r, by omega, by rw [HN.out]; exact HR.out, by go_num, rfl⟩
        case measure => (simp [intOf] <;> omega)
    · obtain rfl : k = j := by omega
      have HV := Lib.hid (show nthV (isTake E q) k m = -1 by
        unfold nthV
        rw [List.getElem?_eq_none (by have := HR.out; omega)])
      go_wp2
      go_ret
      exact ⟨by rw [HV.out]; rfl, rfl⟩
end
def insAt (ys : List Int) (x : Int) (p : Nat) : List Int := ys.take p ++ x :: ys.drop p
theorem insAt_length (ys : List Int) (x : Int) (p : Nat) (h : p ≤ ys.length) : (insAt ys x p).length = ys.length + 1 := by simp [insAt]; omega
theorem insAt_end (ys : List Int) (x : Int) : insAt ys x ys.length = ys ++ [x] := by simp [insAt]
theorem insAt_here (ys : List Int) (x : Int) (p : Nat) (h : p ≤ ys.length) : (insAt ys x p).getD p 0 = x := by
  unfold insAt
  rw [List.getD_eq_getElem?_getD, List.getElem?_append_right (by simp; omega)]
  simp [Nat.min_eq_left h]
theorem insAt_ahead (ys : List Int) (x : Int) (p q : Nat) (h : q < p) (hp : p ≤ ys.length) : (insAt ys x p).getD q 0 = ys.getD q 0 := by
  unfold insAt
  rw [List.getD_eq_getElem?_getD, List.getElem?_append_left (by simp; omega), List.getElem?_take, if_pos h, List.getD_eq_getElem?_getD]
theorem insAt_swap (ys : List Int) (x : Int) (p : Nat) (h : p < ys.length) : ((insAt ys x (p + 1)).set (p + 1) (ys.getD p 0)).set p x = insAt ys x p := by
  apply List.ext_getElem?
  intro j
  have hl : (insAt ys x (p + 1)).length = ys.length + 1 := insAt_length _ _ _ h
  rw [List.getElem?_set, List.getElem?_set]
  simp only [List.length_set, hl]
  unfold insAt
  by_cases e : p = j
  · subst e
    rw [if_pos rfl, if_pos (by omega), List.getElem?_append_right (by simp; omega)]
    simp [Nat.min_eq_left (Nat.le_of_lt h)]
  · rw [if_neg e]
    by_cases e2 : p + 1 = j
    · subst e2
      rw [if_pos rfl, if_pos (by omega), List.getElem?_append_right (by simp; omega)]
      simp [Nat.min_eq_left (Nat.le_of_lt h), show p + 1 - p = 1 by omega, List.getD_eq_getElem?_getD, h]
    · rw [if_neg e2]
      rcases Nat.lt_or_ge j p with hj | hj
      · rw [List.getElem?_append_left (by simp; omega), List.getElem?_append_left (by simp; omega), List.getElem?_take, List.getElem?_take, if_pos (by omega), if_pos hj]
      · rw [List.getElem?_append_right (by simp; omega), List.getElem?_append_right (by simp; omega)]
        simp only [List.length_take, Nat.min_eq_left (show p + 1 ≤ ys.length by omega), Nat.min_eq_left (Nat.le_of_lt h)]
        obtain ⟨r, rfl⟩ : ∃ r, j = p + 2 + r := ⟨j - (p + 2), by omega⟩
        rw [show p + 2 + r - (p + 1) = r + 1 by omega, show p + 2 + r - p = (r + 1) + 1 by omega, List.getElem?_cons_succ, List.getElem?_cons_succ, List.getElem?_drop, List.getElem?_drop]
        congr 1
        omega
/-- Strictly rising, and just those of xs from 0 on. -/
def Rose (ys xs : List Int) : Prop := ys.Pairwise (· < ·) ∧ (∀ x, x ∈ ys ↔ x ∈ xs ∧ 0 ≤ x) ∧ ys.length ≤ xs.length
theorem Rose.nil : Rose [] [] := ⟨List.Pairwise.nil, fun x => by simp, Nat.le_refl _⟩
theorem Rose.skip {ys xs : List Int} {x : Int} (h : Rose ys xs) (hx : x < 0 ∨ x ∈ ys) : Rose ys (xs ++ [x]) := by
  refine ⟨h.1, fun y => ?_, by simp; have := h.2.2; omega⟩
  rw [h.2.1, List.mem_append, List.mem_singleton]
  constructor
  · rintro ⟨a, b⟩; exact ⟨.inl a, b⟩
  · rintro ⟨a | rfl, b⟩
    · exact ⟨a, b⟩
    · rcases hx with hx | hx
      · omega
      · exact (h.2.1 y).1 hx
theorem Rose.put {ys xs : List Int} {x : Int} {p : Nat} (h : Rose ys xs) (hx : 0 ≤ x) (hn : x ∉ ys) (hp : p ≤ ys.length) (hhi : ∀ j, p ≤ j → j < ys.length → x < ys.getD j 0) (hlo : p = 0 ∨ ¬ x < ys.getD (p - 1) 0) : Rose (insAt ys x p) (xs ++ [x]) := by
  have hm : ∀ z, z ∈ insAt ys x p ↔ z ∈ ys ∨ z = x := fun z => by
    unfold insAt
    rw [List.mem_append, List.mem_cons]
    conv => rhs; rw [← List.take_append_drop p ys]
    rw [List.mem_append]
    constructor
    · rintro (a | a | a)
      · exact .inl (.inl a)
      · exact .inr a
      · exact .inl (.inr a)
    · rintro ((a | a) | a)
      · exact .inl a
      · exact .inr (.inr a)
      · exact .inr (.inl a)
  have hs := List.pairwise_iff_getElem.1 h.1
  refine ⟨?_, fun z => ?_, by rw [insAt_length _ _ _ hp]; have := h.2.2; simp; omega⟩
  · unfold insAt
    rw [List.pairwise_append]
    refine ⟨h.1.sublist (List.take_sublist _ _), ?_, ?_⟩
    · rw [List.pairwise_cons]
      refine ⟨fun z hz => ?_, h.1.sublist (List.drop_sublist _ _)⟩
      obtain ⟨j, hj, e⟩ := List.getElem_of_mem hz
      rw [List.getElem_drop] at e
      have hj' : p + j < ys.length := by simp at hj; omega
      have := hhi (p + j) (by omega) hj'
      rw [List.getD_eq_getElem?_getD, List.getElem?_eq_getElem hj', Option.getD_some, e] at this
      exact this
    · intro y hy z hz
      obtain ⟨i, hi, e⟩ := List.getElem_of_mem hy
      rw [List.getElem_take] at e
      have hi' : i < p ∧ i < ys.length := by simp only [List.length_take] at hi; omega
      rcases List.mem_cons.1 hz with rfl | hz
      · rcases hlo with h0 | h0
        · omega
        · rw [List.getD_eq_getElem?_getD, List.getElem?_eq_getElem (show p - 1 < ys.length by omega), Option.getD_some] at h0
          have hne : y ≠ z := fun e' => hn (by rw [← e', ← e]; exact List.getElem_mem _)
          rcases Nat.lt_or_ge i (p - 1) with hlt | hge
          · have := hs i (p - 1) (by omega) (by omega) hlt
            omega
          · obtain rfl : i = p - 1 := by omega
            omega
      · obtain ⟨j, hj, e2⟩ := List.getElem_of_mem hz
        rw [List.getElem_drop] at e2
        have hj' : p + j < ys.length := by simp at hj; omega
        have := hs i (p + j) hi'.2 hj' (by omega)
        omega
  · rw [hm, h.2.1, List.mem_append, List.mem_singleton]
    constructor
    · rintro (⟨a, b⟩ | rfl)
      · exact ⟨.inl a, b⟩
      · exact ⟨.inr rfl, hx⟩
    · rintro ⟨a | a, b⟩
      · exact .inl ⟨a, b⟩
      · exact .inr a
section
variable {ops : Array Oper} {rest : List Oper} {o : Oper} {a : Act} {w W : World} {Q : Exit → Act → World → Prop} {S : List Nat} {L : List Ent} {base : Nat} {v : Value} {xs : List Int}
theorem addr_zero_add (g p : Nat) : (some (Addr.add ⟨g, 0, none⟩ p)) = some (⟨g, p, none⟩ : Addr) := by
  by_cases h : p = 0
  · subst h; rfl
  · simp [Addr.add, h]
/-- A number of a row of one's own is written. -/
theorem mint_store (p : Nat) (x : Int) (ad : Addr) (n c : Nat) (y z : Operand) (O : Own w W S L) (M : Mint base W v xs) (hv : v = .slice (some ad) n c) (hp : p < xs.length) (hgd : o.guard = none) (hdst : o.dst = none) (ho : o.op = .store 3 y z) (hy : a.eval y = .pointer (some (ad.add p))) (hz : a.eval z = .int .i64 x)
    (hb : w.heap.size = base) (hL : ∀ q ∈ L, q.2.1 ≠ 3) (h : ∀ u, Own w u S L → Mint base u v (xs.set p x) → wpList Try.prog ops Q rest a u) : wpList Try.prog ops Q (o :: rest) a W := by
  obtain ⟨hl, ⟨rfl, _⟩ | ⟨g, cap, cur, rfl, hbg, hB, hle, hm, hs, ht⟩⟩ := M
  · cases hv
  · simp only [Value.slice.injEq, Option.some.injEq] at hv
    obtain ⟨rfl, rfl, rfl⟩ := hv
    have hpc : p < cur.size := by omega
    refine wpList_store_blk g p 3 cur (.int .i64 x) hgd hdst ho (by rw [hy, addr_zero_add]) hz hB hpc rfl rfl (by kernel_rfl) fun u K b => ?_
    refine h u ⟨O.keep.trans K (fun q hq hlt => ?_), fun q hq => (O.blk q hq).keeps K (fun hm => ?_), O.new, O.nd⟩ ?_
    · obtain rfl : q = g := by simpa using hq
      omega
    · obtain e : q.1 = g := by simpa using hm
      have h1 := O.blk q hq
      rw [e] at h1
      rw [Blk, hB] at h1
      injection h1 with h1
      injection h1 with _ h1 _
      exact hL q hq h1.symm
    · refine ⟨by simp, .inr ⟨g, cap, _, by simp, hbg, b, by simpa using hle, hm, by simpa using hs, ?_⟩⟩
      rw [Array.toList_setIfInBounds, List.take_set, List.length_set, ht, List.map_set]
end
def RisePost (w : World) (xs : List Int) (e : Ending) (W : World) : Prop := (∃ r ys, e = .returned r ∧ Mint w.heap.size W r ys ∧ Rose ys xs) ∧ Keeps w W []
section
variable {w : World}
theorem own_cellM {W : World} {base : Nat} {v : Value} {xs : List Int} {ad : Addr} {n c : Nat} (M : Mint base W v xs) (hv : v = .slice (some ad) n c) {j : Nat} (hj : j < xs.length) : W.cell? (ad.add j) = some (.int .i64 (xs.getD j 0)) := by
  obtain ⟨A, c', e, hx⟩ := M.list
  obtain ⟨ad', rfl, _, hc⟩ := hx (by omega)
  rw [hv] at e
  cases e
  exact hc j hj
theorem mint_shape {W : World} {base n : Nat} {v : Value} {xs : List Int} (M : Mint base W v xs) (hn : xs.length = n + 1) : ∃ ad c, v = .slice (some ad) (n + 1) c := by
  obtain ⟨A, c, e, hx⟩ := M.list
  obtain ⟨ad, rfl, _⟩ := hx (by omega)
  exact ⟨ad, c, by rw [e, hn]⟩
def Hi (ys : List Int) (x : Int) (p : Nat) : Prop := ∀ j, p ≤ j → j < ys.length → x < ys.getD j 0
theorem hi_end (ys : List Int) (x : Int) {n : Nat} (h : n = ys.length) : Hi ys x n := fun j h1 h2 => by omega
theorem hi_step {ys : List Int} {x : Int} {q : Nat} (h : Hi ys x (q + 1)) (hq : x < ys.getD q 0) : Hi ys x q := fun j h1 h2 => by
  by_cases e : j = q
  · rw [e]; exact hq
  · exact h j (by omega) h2
set_option maxRecDepth 100000 in
set_option maxHeartbeats 2000000 in
theorem rising_any (v0 : Value) (xs : List Int) (hn : xs.length ≤ 1000000) (hI : IntL w v0 xs) : Calls Try.prog 98 #[v0] w (RisePost w xs) := by
  obtain ⟨A, c0, rfl, hx⟩ := hI
  obtain ⟨m, hl⟩ : ∃ m, xs.length = m := ⟨_, rfl⟩
  have HX := Lib.hid hx
  have HL := Lib.hid hl
  rw [hl] at hn ⊢
  clear hx hl
  have O := Own.start w []
  go_enter Try.func98, Try.ntmps98
  go_wp2
  go_loopw [4, 3] (fun i v wr => ∃ (k : Nat) (ys : List Int), k ≤ m ∧ i = .int .i64 k ∧ Own w wr [] [] ∧ Mint w.heap.size wr v ys ∧ Rose ys (xs.take k)) (fun i _ _ => m - (intOf i).toNat)
  case atStart => exact ⟨0, [], by omega, rfl, O, Mint.nil _ _, by rw [List.take_zero]; exact Rose.nil⟩
  case round =>
    obtain ⟨k, ys, hk, rfl, O, M, hR⟩ := hrel
    have HR := Lib.hid hR
    clear hR
    by_cases hlt : k < m
    · have g1 : ((k : Int)) < m := by omega
      have g0 : (0 : Int) ≤ k := by omega
      have HKL := Lib.hid (show k < xs.length by rw [HL.out]; exact hlt)
      obtain ⟨ad0, rfl, hb0, hc0⟩ := HX.out (by have := HKL.out; omega)
      have c1 : wr.cell? (ad0.add k) = some (.int .i64 (xs.getD k 0)) := (O.keep.cellAt (by rw [add_block]; exact hb0) (by simp)).trans (hc0 k HKL.out)
      have HC0 := Lib.hid (And.intro hb0 hc0)
      have HT := Lib.hid (show xs.take (k + 1) = xs.take k ++ [xs.getD k 0] by
        rw [List.take_add_one, List.getElem?_eq_getElem HKL.out, List.getD_eq_getElem?_getD, List.getElem?_eq_getElem HKL.out]; rfl)
      have HYL := Lib.hid (show ys.length ≤ 1000000 by have := HR.out.2.2; rw [List.length_take] at this; omega)
      clear hb0 hc0
      generalize xs.getD k 0 = x at c1 HT HC0
      by_cases hx0 : x < 0
      · have e1 : decide (x < 0) = true := decide_eq_true hx0
        have HNX := Lib.hid (show Rose ys (xs.take (k + 1)) by rw [HT.out]; exact HR.out.skip (.inl hx0))
        clear HT HC0
        go_wp2_with (first | go_big_skip)
        clear c1 e1 hx0
        go_roundw
        case rel => exact ⟨k + 1, ys, by omega, by go_num, O, M, HNX.out⟩
        case measure => (simp [intOf] <;> omega)
      · have e1 : decide (x < 0) = false := decide_eq_false hx0
        have HX0 := Lib.hid (show 0 ≤ x by omega)
        by_cases hin : x ∈ ys
        · have HW := Lib.hid (show decide (x ∈ ys) = true from decide_eq_true hin)
          have HNX := Lib.hid (show Rose ys (xs.take (k + 1)) by rw [HT.out]; exact HR.out.skip (.inr hin))
          clear HT HC0 hin
          go_wp2_with (first
            | go_big_skip
            | (go_at_call 82; refine (within_any _ ys x true (by have := HYL.out; omega) M.list HW.out).mono ?_; rintro e w' ⟨rfl, rfl⟩))
          clear c1 e1 hx0
          go_roundw
          case rel => exact ⟨k + 1, ys, by omega, by go_num, O, M, HNX.out⟩
          case measure => (simp [intOf] <;> omega)
        · have HW := Lib.hid (show decide (x ∈ ys) = false from decide_eq_false hin)
          have HIN := Lib.hid hin
          obtain ⟨n, hnn⟩ : ∃ n, n = ys.length := ⟨_, rfl⟩
          have HNN := Lib.hid hnn
          have hn6 : n ≤ 1000000 := by have := HYL.out; omega
          clear hnn
          clear hin
          go_wp2_with (first
            | go_big_skip
            | (go_at_call 82; refine (within_any _ ys x false (by have := HYL.out; omega) M.list HW.out).mono ?_; rintro e w' ⟨rfl, rfl⟩)
            | (refine own_lit1 30 x O rfl rfl rfl rfl ?_; clear O c1; intro W gl O K1 hg; replace M := M.keeps K1 (by simp); clear K1 hg; simp only [Act.put, List.setIfInBounds_toArray, List.set_cons_zero, List.set_cons_succ])
            | (at_builtin; (refine own_app w.heap.size _ ys x gl (.tmp 25) (.tmp 30) (O.drop_ 1) M rfl rfl rfl rfl ((O.get 0 rfl).cell 0) rfl (by simp) (by have := HYL.out; omega) ?_; clear O M; intro v1 W O M; simp only [List.drop] at O; obtain ⟨ad, c, hv1⟩ := mint_shape (n := n) M (by simp; exact HNN.out.symm); subst hv1; simp only [Act.put, List.setIfInBounds_toArray, List.set_cons_zero, List.set_cons_succ])))
          clear e1 hx0
          rw [← insAt_end, ← HNN.out] at M
          go_loopw [5] (fun i wr => ∃ p : Nat, p ≤ n ∧ i = .int .i64 p ∧ Own w wr [] [] ∧ Mint w.heap.size wr (.slice (some ad) (n + 1) c) (insAt ys x p) ∧ Hi ys x p) (fun i _ => (intOf i).toNat)
          case atStart => exact ⟨n, Nat.le_refl _, by go_num, O, M, hi_end ys x HNN.out⟩
          case round =>
            obtain ⟨p, hp, rfl, O, M, hH⟩ := hrel
            have HH := Lib.hid hH
            clear hH
            rcases Nat.eq_zero_or_pos p with h0 | h0
            · subst h0
              have HNX := Lib.hid (show Rose (insAt ys x 0) (xs.take (k + 1)) by rw [HT.out]; exact HR.out.put HX0.out HIN.out (Nat.zero_le _) HH.out (.inl rfl))
              have e9 : ((0 : Nat) : Int) = 0 := rfl
              go_wp2
              refine wp_quiet_later (by kernel_rfl) (by kernel_rfl) ?_
              repeat (first
                | go_big_quiet_skip
                | go_big_quiet_step (fail))
              refine wpQuiet_nil ?_
              intro _ hw
              obtain ⟨p', rfl⟩ := hw
              replace O := O.keeps p'.2
              replace M := M.keeps p'.2 (by simp)
              clear e9
              generalize p'.1 = W at O M ⊢
              go_wp2
              go_roundw
              case rel => exact ⟨k + 1, _, by omega, by go_num, O, M, HNX.out⟩
              case measure => (simp [intOf] <;> omega)
            · obtain ⟨q, hq⟩ : ∃ q, p = q + 1 := ⟨p - 1, by omega⟩
              have HQ := Lib.hid hq
              have HLI := Lib.hid (insAt_length ys x p (by have := HNN.out; omega))
              have HVp := Lib.hid (insAt_here ys x p (by have := HNN.out; omega))
              have HVq := Lib.hid (insAt_ahead ys x p q (by omega) (by have := HNN.out; omega))
              have g1 : (0 : Int) < p := by omega
              have g2 : (p : Int) < ((n + 1 : Nat) : Int) := by omega
              have g3 : (q : Int) < ((n + 1 : Nat) : Int) := by omega
              have g4 : (0 : Int) ≤ q := by omega
              have g12 : (p : Int) < (n : Int) + 1 := by omega
              have g13 : (q : Int) < (n : Int) + 1 := by omega
              have g5 : (0 : Int) ≤ p := by omega
              have g6 : decide (0 < p) = true := decide_eq_true (by omega)
              have r1 : IntKind.i64.wrap ((p : Int) - 1) = (q : Int) := by
                rw [show (p : Int) - 1 = (q : Int) by omega]
                exact IntWalk.i64_in _ (by have := HYL.out; have := HNN.out; omega)
              have cp : ∀ z : Later wr, z.1.cell? (ad.add p) = some (.int .i64 x) := fun z => by
                rw [own_cellM (M.keeps z.2 (by simp)) rfl (j := p) (by rw [HLI.out]; have := HNN.out; omega), HVp.out]
              have cq : ∀ z : Later wr, z.1.cell? (ad.add q) = some (.int .i64 (ys.getD q 0)) := fun z => by
                rw [own_cellM (M.keeps z.2 (by simp)) rfl (j := q) (by rw [HLI.out]; have := HNN.out; omega), HVq.out]
              obtain ⟨y, hy⟩ : ∃ y, y = ys.getD q 0 := ⟨_, rfl⟩
              rw [← hy] at cq
              have HY := Lib.hid hy
              have hpn : p ≤ 1000001 := by have := HYL.out; have := HNN.out; omega
              clear hq hy h0
              by_cases hxy : x < y
              · have g7 : decide (x < y) = true := decide_eq_true hxy
                have HXY := Lib.hid hxy
                clear hxy
                go_wp2
                refine wp_quiet_later (by kernel_rfl) (by kernel_rfl) ?_
                repeat (first
                  | go_big_quiet_skip
                  | go_big_quiet_step (fail))
                refine wpQuiet_nil ?_
                intro _ hw
                obtain ⟨p', rfl⟩ := hw
                replace O := O.keeps p'.2
                replace M := M.keeps p'.2 (by simp)
                clear cp cq
                generalize p'.1 = W at O M ⊢
                go_wp2
                refine wp_held (S := fun _ => True) 18 #[false, false, false, false, false, false, false, false, false, false, false, false, false, false, false, false, false, false] (by kernel_rfl) rfl rfl ?_
                replace O := O.drew
                replace M := M.keeps (Keeps.refl _ []).drew (by simp)
                refine seg_take (fuel := 6) (L' := #[true, true, true, true, true, true, true, true, true, false, true, true, true, false, false, false, false, false]) (by kernel_rfl) (fun _ _ _ _ _ _ h => h) True.intro [0, 1, 2, 3, 4, 5, 6, 7, 8, 10, 11, 12] [_, _, _, _, _, _, _, _, _, _, _, _] _ _ rfl (by kernel_rfl) ?_
                simp only [List.getElem_toArray, List.getElem_cons_zero, List.getElem_cons_succ]
                repeat (first
                  | (refine take_pure (v := ?_) (by rfl) ?_ ?_; rotate_left; (· (intro w hSw; clear hSw; go_simp; try with_reducible rfl)); simp only [Act.put, List.setIfInBounds_toArray, List.set_cons_zero, List.set_cons_succ]))
                refine take_done ?_
                have cp : W.drew.cell? (ad.add p) = some (.int .i64 x) := by rw [own_cellM M rfl (j := p) (by rw [HLI.out]; have := HNN.out; omega), HVp.out]
                have cq : W.drew.cell? (ad.add q) = some (.int .i64 y) := by rw [own_cellM M rfl (j := q) (by rw [HLI.out]; have := HNN.out; omega), HVq.out, HY.out]
                refine seg_two 9 13 #[true, true, true, true, true, true, true, true, true, true, true, true, true, false, false, false, false, false] #[true, true, true, true, true, true, true, true, true, false, true, true, true, true, false, false, false, false] rfl rfl (by kernel_rfl) ?_ ?_
                · try simp only [List.getElem_toArray, List.getElem_cons_zero, List.getElem_cons_succ]
                  go_wp2
                  (first | refine back_intro2 True.intro ?_ | refine back_intro True.intro ?_)
                  refine seg_sole 13 #[true, true, true, true, true, true, true, true, true, true, true, true, true, true, false, false, false, false] rfl (by kernel_rfl) ?_
                  try simp only [List.getElem_toArray, List.getElem_cons_zero, List.getElem_cons_succ]
                  go_wp2
                  (first | refine back_intro2 True.intro ?_ | refine back_intro True.intro ?_)
                  clear cp cq
                  refine seg_sole 14 #[true, true, true, true, true, true, true, true, true, true, true, true, true, true, true, false, false, false] rfl (by kernel_rfl) ?_
                  try simp only [List.getElem_toArray, List.getElem_cons_zero, List.getElem_cons_succ]
                  go_wp2
                  (first | refine back_intro2 True.intro ?_ | refine back_intro True.intro ?_)
                  refine seg_sole 15 #[true, true, true, true, true, true, true, true, true, true, true, true, true, true, true, true, false, false] rfl (by kernel_rfl) ?_
                  try simp only [List.getElem_toArray, List.getElem_cons_zero, List.getElem_cons_succ]
                  go_wp2_with (refine mint_store p y ad (n + 1) c (.tmp 65) (.tmp 60) O M rfl (by rw [HLI.out]; have := HNN.out; omega) rfl rfl rfl rfl rfl rfl (by simp) ?_; clear O M; intro W O M)
                  (first | refine back_intro2 True.intro ?_ | refine back_intro True.intro ?_)
                  refine seg_sole 16 #[true, true, true, true, true, true, true, true, true, true, true, true, true, true, true, true, true, false] rfl (by kernel_rfl) ?_
                  try simp only [List.getElem_toArray, List.getElem_cons_zero, List.getElem_cons_succ]
                  go_wp2
                  (first | refine back_intro2 True.intro ?_ | refine back_intro True.intro ?_)
                  refine seg_sole 17 #[true, true, true, true, true, true, true, true, true, true, true, true, true, true, true, true, true, true] rfl (by kernel_rfl) ?_
                  try simp only [List.getElem_toArray, List.getElem_cons_zero, List.getElem_cons_succ]
                  go_wp2_with (refine mint_store q x ad (n + 1) c (.tmp 66) (.tmp 64) O M rfl (by rw [List.length_set, HLI.out]; have := HNN.out; have := HQ.out; omega) rfl rfl rfl rfl rfl rfl (by simp) ?_; clear O M; intro W O M)
                  (first | refine back_intro2 True.intro ?_ | refine back_intro True.intro ?_)
                  refine seg_done (by kernel_rfl) ?_
                  go_wp2
                  clear g6 g7
                  go_roundw
                  case rel => exact ⟨q, by have := HQ.out; omega, rfl, O, by have := insAt_swap ys x q (by have := HNN.out; have := HQ.out; omega); rw [← HQ.out, ← HY.out] at this; rw [← this]; exact M, hi_step (by have := HH.out; rwa [HQ.out] at this) (by rw [← HY.out]; exact HXY.out)⟩
                  case measure => (simp [intOf]; have := HQ.out; omega)
                · try simp only [List.getElem_toArray, List.getElem_cons_zero, List.getElem_cons_succ]
                  go_wp2
                  (first | refine back_intro2 True.intro ?_ | refine back_intro True.intro ?_)
                  refine seg_sole 9 #[true, true, true, true, true, true, true, true, true, true, true, true, true, true, false, false, false, false] rfl (by kernel_rfl) ?_
                  try simp only [List.getElem_toArray, List.getElem_cons_zero, List.getElem_cons_succ]
                  go_wp2
                  (first | refine back_intro2 True.intro ?_ | refine back_intro True.intro ?_)
                  clear cp cq
                  refine seg_sole 14 #[true, true, true, true, true, true, true, true, true, true, true, true, true, true, true, false, false, false] rfl (by kernel_rfl) ?_
                  try simp only [List.getElem_toArray, List.getElem_cons_zero, List.getElem_cons_succ]
                  go_wp2
                  (first | refine back_intro2 True.intro ?_ | refine back_intro True.intro ?_)
                  refine seg_sole 15 #[true, true, true, true, true, true, true, true, true, true, true, true, true, true, true, true, false, false] rfl (by kernel_rfl) ?_
                  try simp only [List.getElem_toArray, List.getElem_cons_zero, List.getElem_cons_succ]
                  go_wp2_with (refine mint_store p y ad (n + 1) c (.tmp 65) (.tmp 60) O M rfl (by rw [HLI.out]; have := HNN.out; omega) rfl rfl rfl rfl rfl rfl (by simp) ?_; clear O M; intro W O M)
                  (first | refine back_intro2 True.intro ?_ | refine back_intro True.intro ?_)
                  refine seg_sole 16 #[true, true, true, true, true, true, true, true, true, true, true, true, true, true, true, true, true, false] rfl (by kernel_rfl) ?_
                  try simp only [List.getElem_toArray, List.getElem_cons_zero, List.getElem_cons_succ]
                  go_wp2
                  (first | refine back_intro2 True.intro ?_ | refine back_intro True.intro ?_)
                  refine seg_sole 17 #[true, true, true, true, true, true, true, true, true, true, true, true, true, true, true, true, true, true] rfl (by kernel_rfl) ?_
                  try simp only [List.getElem_toArray, List.getElem_cons_zero, List.getElem_cons_succ]
                  go_wp2_with (refine mint_store q x ad (n + 1) c (.tmp 66) (.tmp 64) O M rfl (by rw [List.length_set, HLI.out]; have := HNN.out; have := HQ.out; omega) rfl rfl rfl rfl rfl rfl (by simp) ?_; clear O M; intro W O M)
                  (first | refine back_intro2 True.intro ?_ | refine back_intro True.intro ?_)
                  refine seg_done (by kernel_rfl) ?_
                  go_wp2
                  clear g6 g7
                  go_roundw
                  case rel => exact ⟨q, by have := HQ.out; omega, rfl, O, by have := insAt_swap ys x q (by have := HNN.out; have := HQ.out; omega); rw [← HQ.out, ← HY.out] at this; rw [← this]; exact M, hi_step (by have := HH.out; rwa [HQ.out] at this) (by rw [← HY.out]; exact HXY.out)⟩
                  case measure => (simp [intOf]; have := HQ.out; omega)
              · have g7 : decide (x < y) = false := decide_eq_false hxy
                have HNX := Lib.hid (show Rose (insAt ys x p) (xs.take (k + 1)) by
                  rw [HT.out]
                  exact HR.out.put HX0.out HIN.out (by have := HNN.out; omega) HH.out (.inr (by rw [show p - 1 = q by have := HQ.out; omega, ← HY.out]; exact hxy)))
                clear hxy
                go_wp2
                refine wp_quiet_later (by kernel_rfl) (by kernel_rfl) ?_
                repeat (first
                  | go_big_quiet_skip
                  | go_big_quiet_step (fail))
                refine wpQuiet_nil ?_
                intro _ hw
                obtain ⟨p', rfl⟩ := hw
                replace O := O.keeps p'.2
                replace M := M.keeps p'.2 (by simp)
                clear cp cq
                generalize p'.1 = W at O M ⊢
                go_wp2
                clear g6 g7 r1
                go_roundw
                case rel => exact ⟨k + 1, _, by omega, by go_num, O, M, HNX.out⟩
                case measure => (simp [intOf] <;> omega)
    · obtain rfl : k = m := by omega
      go_wp2
      go_ret
      exact ⟨⟨_, _, rfl, M, by have := HR.out; rwa [List.take_of_length_le (by rw [HL.out]; exact Nat.le_refl _)] at this⟩, O.keep⟩
end
end Go.Proofs.Ytakmcpadkanggaa
namespace Go.Proofs.Ytakmcpadkanggaa
open Go.RowKit Go.Maps Go.Deep
def oI (o : Option Int) : Int := o.getD (-1)
/-- What the document gathers besides the runner's own. -/
def refM (E : Nat → Ev) (rm : Int → Int) (j : Nat) (e : Ev) : List Int :=
  if e.op = 6 then (if e.sh then (shutN E e.a j).toList else [nthV (isSend E e.a) j (pickL (isTake E e.a) j).length])
  else if e.op = 5 then (if rm e.a ≤ ((pickL (isSend E e.a) j).length : Int) then [nthV (isTake E e.a) j (((pickL (isSend E e.a) j).length : Int) - rm e.a).toNat] else [])
  else if e.op = 8 then natL (freeL E e.a (aftN E e.a j) j)
  else if e.op = 11 then natL (pickL (isAdd E e.a) j)
  else []
theorem lastN_lt {E : Nat → Ev} {who i : Int} : ∀ {j : Nat}, lastN E who j = some i → 0 ≤ i ∧ i < j
  | 0, h => by simp [lastN] at h
  | j + 1, h => by
    unfold lastN at h
    split at h
    · cases h; omega
    · have := lastN_lt h; omega
theorem bornN_lt {E : Nat → Ev} {who i : Int} : ∀ {j : Nat}, bornN E who j = some i → 0 ≤ i ∧ i < j
  | 0, h => by simp [bornN] at h
  | j + 1, h => by
    unfold bornN at h
    split at h
    · cases h; omega
    · have := bornN_lt h; omega
theorem shutN_lt {E : Nat → Ev} {a i : Int} : ∀ {j : Nat}, shutN E a j = some i → 0 ≤ i ∧ i < j
  | 0, h => by simp [shutN] at h
  | j + 1, h => by
    unfold shutN at h
    split at h
    · cases h; omega
    · have := shutN_lt h; omega
theorem natL_pos {l : List Nat} {x : Int} (h : x ∈ natL l) : 0 ≤ x := by
  unfold natL at h
  obtain ⟨i, _, rfl⟩ := List.mem_map.1 h
  exact Int.natCast_nonneg i
theorem natL_getD (l : List Nat) (m : Nat) : (natL l)[m]? = l[m]?.map Int.ofNat := by simp [natL]
theorem ownL_lk (E : Nat → Ev) (j : Nat) (who : Int) : ownL (lkN E j) who = match lastN E who j with | some i => [i] | none => match bornN E who j with | some i => [i] | none => [] := by
  unfold ownL
  rw [lk_o4, lk_o5]
  all_goals (cases lastN E who j <;> first | rfl | (cases bornN E who j <;> rfl))
theorem ownL_pos {E : Nat → Ev} {j : Nat} {who x : Int} (h : x ∈ ownL (lkN E j) who) : 0 ≤ x ∧ x < j := by
  rw [ownL_lk] at h
  cases hl : lastN E who j with
  | some i =>
    rw [hl] at h
    obtain rfl : x = i := by simpa using h
    exact lastN_lt hl
  | none =>
    rw [hl] at h
    cases hb : bornN E who j with
    | some i =>
      rw [hb] at h
      obtain rfl : x = i := by simpa using h
      exact bornN_lt hb
    | none => rw [hb] at h; simp at h
theorem nthV_some {p : Nat → Bool} {j m : Nat} (h : m < (pickL p j).length) : nthV p j m = (natL (pickL p j)).getD m 0 ∧ 0 ≤ nthV p j m := by
  unfold nthV
  rw [List.getElem?_eq_getElem h, List.getD_eq_getElem?_getD, natL_getD, List.getElem?_eq_getElem h]
  exact ⟨rfl, Int.natCast_nonneg _⟩
theorem nthV_none {p : Nat → Bool} {j m : Nat} (h : (pickL p j).length ≤ m) : nthV p j m = -1 := by
  unfold nthV
  rw [List.getElem?_eq_none h]
/-- What the document gathers, but for what is below 0, is what the links give. -/
theorem into_same (E : Nat → Ev) (rm : Int → Int) (j : Nat) (e : Ev) (ht : e.op = 6 → e.sh = false → (pickL (isTake E e.a) j).length < (pickL (isSend E e.a) j).length) (hs : e.op = 6 → e.sh = true → (shutN E e.a j).isSome = true) (x : Int) :
    (x ∈ ownL (lkN E j) e.who ++ refM E rm j e ∧ 0 ≤ x) ↔ x ∈ nextR (lkN E j) rm e := by
  have hown : x ∈ ownL (lkN E j) e.who → 0 ≤ x := fun h => (ownL_pos h).1
  suffices h : (x ∈ refM E rm j e ∧ 0 ≤ x) ↔ x ∈ (if e.op = 5 then (if 1 ≤ (((lkN E j).rows 0 e.a).length + 1 : Nat) - rm e.a ∧ (((lkN E j).rows 0 e.a).length + 1 : Nat) - rm e.a ≤ (((lkN E j).rows 1 e.a).length : Nat) then [((lkN E j).rows 1 e.a).getD ((((lkN E j).rows 0 e.a).length + 1 : Nat) - rm e.a - 1).toNat 0] else [])
    else if e.op = 6 then (if e.sh then [((lkN E j).ones 6 e.a).getD 0] else [((lkN E j).rows 0 e.a).getD ((lkN E j).rows 1 e.a).length 0])
    else if e.op = 8 then (lkN E j).rows 2 e.a else if e.op = 11 then (lkN E j).rows 3 e.a else []) by
    unfold nextR
    rw [List.mem_append, List.mem_append, ← h]
    constructor
    · rintro ⟨a | a, b⟩
      · exact .inl a
      · exact .inr ⟨a, b⟩
    · rintro (a | ⟨a, b⟩)
      · exact ⟨.inl a, hown a⟩
      · exact ⟨.inr a, b⟩
  rw [lk_r0, lk_r1, lk_r2, lk_r3, lk_o6]
  simp only [natL_length]
  unfold refM
  by_cases h5 : e.op = 5
  · rw [if_neg (by omega), if_pos h5, if_pos h5]
    by_cases hr : rm e.a ≤ ((pickL (isSend E e.a) j).length : Int)
    · rw [if_pos hr]
      have e1 : ((((pickL (isSend E e.a) j).length + 1 : Nat) : Int) - rm e.a - 1).toNat = (((pickL (isSend E e.a) j).length : Int) - rm e.a).toNat := by congr 1; omega
      rcases Nat.lt_or_ge (((pickL (isSend E e.a) j).length : Int) - rm e.a).toNat (pickL (isTake E e.a) j).length with hl | hl
      · rw [if_pos (by omega), e1, (nthV_some hl).1.symm]
        have := (nthV_some hl).2
        rw [List.mem_singleton]
        exact ⟨fun h => h.1, fun h => ⟨h, by rw [h]; exact this⟩⟩
      · rw [if_neg (by omega), nthV_none hl, List.mem_singleton]
        simp
        omega
    · rw [if_neg hr, if_neg (by omega)]
      simp
  · by_cases h6 : e.op = 6
    · rw [if_pos h6, if_neg h5, if_pos h6]
      cases hsh : e.sh with
      | true =>
        rw [if_pos rfl, if_pos rfl]
        obtain ⟨i, hi⟩ := Option.isSome_iff_exists.1 (hs h6 hsh)
        rw [hi]
        have := shutN_lt hi
        simp
        omega
      | false =>
        have hl := ht h6 hsh
        rw [if_neg (by simp), if_neg (by simp), (nthV_some hl).1.symm, List.mem_singleton]
        have := (nthV_some hl).2
        exact ⟨fun h => h.1, fun h => ⟨h, by rw [h]; exact this⟩⟩
    · rw [if_neg h6, if_neg h5, if_neg h5, if_neg h6]
      by_cases h8 : e.op = 8
      · simp only [if_pos h8]
        exact ⟨fun h => h.1, fun h => ⟨h, natL_pos h⟩⟩
      · simp only [if_neg h8]
        by_cases h11 : e.op = 11
        · simp only [if_pos h11]
          exact ⟨fun h => h.1, fun h => ⟨h, natL_pos h⟩⟩
        · simp only [if_neg h11]
          simp
theorem into_rose {E : Nat → Ev} {rm : Int → Int} {j : Nat} {ys : List Int} (h : Rose ys (ownL (lkN E j) (E j).who ++ refM E rm j (E j)))
    (ht : (E j).op = 6 → (E j).sh = false → (pickL (isTake E (E j).a) j).length < (pickL (isSend E (E j).a) j).length) (hs : (E j).op = 6 → (E j).sh = true → (shutN E (E j).a j).isSome = true) : ys = intoL E rm j :=
  sc_eq h.1 fun x => by rw [h.2.1]; exact into_same E rm j (E j) ht hs x
theorem stN_counts (E : Nat → Ev) (a : Int) : ∀ j, (stN E j).sent a = ((pickL (isSend E a) j).length : Int) ∧ (stN E j).took a = ((pickL (isTake E a) j).length : Int) ∧ ((stN E j).shut a = true ↔ (shutN E a j).isSome = true)
  | 0 => ⟨rfl, rfl, by simp [stN, st0, shutN]⟩
  | j + 1 => by
    obtain ⟨h1, h2, h3⟩ := stN_counts E a j
    rw [pickL_succ, pickL_succ, List.length_append, List.length_append]
    show (nextE (stN E j) (E j)).sent a = _ ∧ (nextE (stN E j) (E j)).took a = _ ∧ ((nextE (stN E j) (E j)).shut a = true ↔ _)
    have e7 : (shutN E a (j + 1)) = if (E j).op = 7 ∧ (E j).a = a ∧ (shutN E a j).isNone then some (j : Int) else shutN E a j := rfl
    rw [e7]
    unfold nextE
    by_cases h14 : (E j).op = 14
    · rw [if_pos h14, if_neg (show ¬ isSend E a j = true by simp [isSend, h14]), if_neg (show ¬ isTake E a j = true by simp [isTake, h14]), if_neg (show ¬ ((E j).op = 7 ∧ (E j).a = a ∧ (shutN E a j).isNone = true) by omega)]
      split <;> exact ⟨by simpa using h1, by simpa using h2, h3⟩
    · rw [if_neg h14]
      by_cases h5 : (E j).op = 5
      · rw [if_pos h5, if_neg (show ¬ isTake E a j = true by simp [isTake, h5]), if_neg (show ¬ ((E j).op = 7 ∧ (E j).a = a ∧ (shutN E a j).isNone = true) by omega)]
        refine ⟨?_, by simpa using h2, h3⟩
        by_cases ha : (E j).a = a
        · subst ha
          rw [if_pos (show isSend E (E j).a j = true by simp [isSend, h5])]
          simp [updI, h1]
        · rw [if_neg (show ¬ isSend E a j = true by simp [isSend, ha])]
          simp only [updI_other _ _ _ _ (fun q => ha (Eq.symm q))]
          simpa using h1
      · rw [if_neg h5, if_neg (show ¬ isSend E a j = true by simp [isSend, h5])]
        by_cases h6 : (E j).op = 6
        · rw [if_pos h6, if_neg (show ¬ ((E j).op = 7 ∧ (E j).a = a ∧ (shutN E a j).isNone = true) by omega)]
          by_cases hs : (E j).sh = true
          · rw [if_pos hs, if_neg (show ¬ isTake E a j = true by simp [isTake, hs])]
            exact ⟨by simpa using h1, by simpa using h2, h3⟩
          · rw [if_neg hs]
            refine ⟨by simpa using h1, ?_, h3⟩
            by_cases ha : (E j).a = a
            · subst ha
              rw [if_pos (show isTake E (E j).a j = true by simp [isTake, h6, hs])]
              simp [updI, h2]
            · rw [if_neg (show ¬ isTake E a j = true by simp [isTake, ha])]
              simp only [updI_other _ _ _ _ (fun q => ha (Eq.symm q))]
              simpa using h2
        · rw [if_neg h6, if_neg (show ¬ isTake E a j = true by simp [isTake, h6])]
          by_cases h7 : (E j).op = 7
          · rw [if_pos h7]
            refine ⟨by simpa using h1, by simpa using h2, ?_⟩
            by_cases ha : (E j).a = a
            · subst ha
              simp only [updI_same]
              split
              · simp
              · rename_i hq
                cases hx : shutN E (E j).a j with
                | some i => simp
                | none => exact absurd ⟨h7, trivial, by rw [hx]; rfl⟩ hq
            · simp only [updI_other _ _ _ _ (fun q => ha (Eq.symm q))]
              rw [if_neg (fun q => ha q.2.1)]
              exact h3
          · rw [if_neg h7, if_neg (show ¬ ((E j).op = 7 ∧ (E j).a = a ∧ (shutN E a j).isNone = true) by omega)]
            split
            · exact ⟨by simpa using h1, by simpa using h2, h3⟩
            · split <;> exact ⟨by simpa using h1, by simpa using h2, h3⟩
theorem ok_take {S : Sys} {E : Nat → Ev} {j : Nat} (h : okE S (stN E j) (E j) = true) (h6 : (E j).op = 6) (hs : (E j).sh = false) : (pickL (isTake E (E j).a) j).length < (pickL (isSend E (E j).a) j).length := by
  unfold okE bodyE at h
  rw [if_neg (by omega), if_pos h6, hs] at h
  simp only [Bool.and_eq_true, Bool.false_eq_true, if_false, decide_eq_true_eq] at h
  obtain ⟨h1, h2, _⟩ := stN_counts E (E j).a j
  omega
theorem ok_shut {S : Sys} {E : Nat → Ev} {j : Nat} (h : okE S (stN E j) (E j) = true) (h6 : (E j).op = 6) (hs : (E j).sh = true) : (shutN E (E j).a j).isSome = true := by
  unfold okE bodyE at h
  rw [if_neg (by omega), if_pos h6, hs] at h
  simp only [Bool.and_eq_true, if_true] at h
  exact (stN_counts E (E j).a j).2.2.1 h.2
end Go.Proofs.Ytakmcpadkanggaa
namespace Go.Proofs.Ytakmcpadkanggaa
open Go.RowKit Go.Maps Go.Deep
theorem nthV_lt {p : Nat → Bool} {j m : Nat} : nthV p j m < j := by
  unfold nthV
  cases h : (pickL p j)[m]? with
  | none => simp only; omega
  | some i =>
    have := ((pickL_mem p j i).1 (List.mem_of_getElem? h)).1
    simp only
    omega
theorem natL_lt {p : Nat → Bool} {j : Nat} {x : Int} (h : x ∈ natL (pickL p j)) : x < j := by
  unfold natL at h
  obtain ⟨i, hi, rfl⟩ := List.mem_map.1 h
  have := ((pickL_mem p j i).1 hi).1
  show (i : Int) < j
  omega
theorem refM_lt {E : Nat → Ev} {rm : Int → Int} {j : Nat} {e : Ev} {x : Int} (h : x ∈ refM E rm j e) : x < j := by
  unfold refM at h
  split at h
  · split at h
    · cases hs : shutN E e.a j with
      | none => rw [hs] at h; simp at h
      | some i =>
        rw [hs] at h
        obtain rfl : x = i := by simpa using h
        exact (shutN_lt hs).2
    · obtain rfl := List.mem_singleton.1 h
      exact nthV_lt
  · split at h
    · split at h
      · obtain rfl := List.mem_singleton.1 h
        exact nthV_lt
      · simp at h
    · split at h
      · exact natL_lt h
      · split at h
        · exact natL_lt h
        · simp at h
/-- The events that may be looked at: each may come next. -/
def OkAll (S : Sys) (E : Nat → Ev) (n : Nat) : Prop := ∀ j, j < n → okE S (stN E j) (E j) = true
section
variable {S : Sys} {E : Nat → Ev} {rm : Int → Int} {n j : Nat}
theorem intoL_mem (hok : okE S (stN E j) (E j) = true) (x : Int) : x ∈ intoL E rm j ↔ x ∈ ownL (lkN E j) (E j).who ++ refM E rm j (E j) ∧ 0 ≤ x := by
  unfold intoL
  rw [(sc_law _).2, into_same E rm j (E j) (fun h6 hs => ok_take hok h6 hs) (fun h6 hs => ok_shut hok h6 hs)]
theorem intoL_lt (hok : okE S (stN E j) (E j) = true) {x : Int} (h : x ∈ intoL E rm j) : 0 ≤ x ∧ x < j := by
  obtain ⟨h1, h2⟩ := (intoL_mem hok x).1 h
  refine ⟨h2, ?_⟩
  rcases List.mem_append.1 h1 with h1 | h1
  · exact (ownL_pos h1).2
  · exact refM_lt h1
theorem rising_len {ys : List Int} {j : Nat} (h : ys.Pairwise (· < ·)) (hm : ∀ x ∈ ys, 0 ≤ x ∧ x < j) : ys.length ≤ j := by
  have key : ∀ i (hi : i < ys.length), (i : Int) ≤ ys[i] := by
    intro i
    induction i with
    | zero => intro hi; exact (hm _ (List.getElem_mem hi)).1
    | succ i ih =>
      intro hi
      have h1 := ih (by omega)
      have h2 := List.pairwise_iff_getElem.1 h i (i + 1) (by omega) hi (by omega)
      omega
  rcases Nat.eq_zero_or_pos ys.length with h0 | h0
  · omega
  · have h1 := key (ys.length - 1) (by omega)
    have h2 := (hm _ (List.getElem_mem (show ys.length - 1 < ys.length by omega))).2
    omega
theorem intoL_length (hok : okE S (stN E j) (E j) = true) : (intoL E rm j).length ≤ j := rising_len (sc_law _).1 fun _ hx => intoL_lt hok hx
end
end Go.Proofs.Ytakmcpadkanggaa
namespace Go.Proofs.Ytakmcpadkanggaa
open Go.RowKit Go.Maps Go.Deep
def maxL : List Int → Int
  | [] => 0
  | x :: l => max x (maxL l)
theorem maxL_nonneg : ∀ l : List Int, 0 ≤ maxL l
  | [] => Int.le_refl _
  | x :: l => by have := maxL_nonneg l; simp only [maxL]; omega
theorem maxL_le : ∀ {l : List Int} {x : Int}, x ∈ l → x ≤ maxL l
  | y :: l, x, h => by
    simp only [maxL]
    rcases List.mem_cons.1 h with rfl | h
    · omega
    · have := maxL_le h; omega
theorem maxL_mem : ∀ l : List Int, maxL l = 0 ∨ maxL l ∈ l
  | [] => .inl rfl
  | x :: l => by
    simp only [maxL]
    rcases maxL_mem l with h | h
    · by_cases hx : 0 ≤ x
      · exact .inr (by rw [h, show max x 0 = x by omega]; simp)
      · exact .inl (by rw [h]; omega)
    · by_cases hx : maxL l ≤ x
      · exact .inr (by rw [show max x (maxL l) = x by omega]; simp)
      · exact .inr (by rw [show max x (maxL l) = maxL l by omega]; simp [h])
theorem maxL_eq {l : List Int} {v : Int} (h0 : 0 ≤ v) (h1 : ∀ x ∈ l, x ≤ v) (h2 : v = 0 ∨ v ∈ l) : maxL l = v := by
  have h3 := maxL_nonneg l
  have h4 : maxL l ≤ v := by
    rcases maxL_mem l with h | h
    · omega
    · exact h1 _ h
  have h5 : v ≤ maxL l := by
    rcases h2 with h | h
    · omega
    · exact maxL_le h
  omega
theorem maxL_same {l m : List Int} (h : ∀ x, x ∈ l ↔ x ∈ m) : maxL l = maxL m :=
  maxL_eq (maxL_nonneg m) (fun x hx => maxL_le ((h x).1 hx)) ((maxL_mem m).imp id fun hm => (h _).2 hm)
theorem maxL_append : ∀ l m : List Int, maxL (l ++ m) = max (maxL l) (maxL m)
  | [], m => by have := maxL_nonneg m; simp only [List.nil_append, maxL]; omega
  | x :: l, m => by simp only [List.cons_append, maxL, maxL_append l m]; omega
theorem maxL_map_same {l m : List Int} (f : Int → Int) (h : ∀ x, x ∈ l ↔ x ∈ m) : maxL (l.map f) = maxL (m.map f) :=
  maxL_same fun x => by
    simp only [List.mem_map]
    exact ⟨fun ⟨y, hy, e⟩ => ⟨y, (h y).1 hy, e⟩, fun ⟨y, hy, e⟩ => ⟨y, (h y).2 hy, e⟩⟩
theorem maxL_bound {l : List Int} {f : Int → Int} {v : Int} (h0 : 0 ≤ v) (h : ∀ x ∈ l, f x ≤ v) : maxL (l.map f) ≤ v := by
  rcases maxL_mem (l.map f) with e | e
  · omega
  · obtain ⟨x, hx, e'⟩ := List.mem_map.1 e
    rw [← e']
    exact h x hx
def ckT (E : Nat → Ev) (rm : Int → Int) : Nat → Int → Int → Int
  | 0 => fun _ _ => 0
  | j + 1 => fun i w => if i = (j : Int) then maxL ((intoL E rm j).map fun x => ckT E rm j x w) + (if (E j).who = w then 1 else 0) else ckT E rm j i w
/-- The clock of event i, at runner w. -/
def clk (E : Nat → Ev) (rm : Int → Int) (i : Int) (w : Int) : Int := ckT E rm (i.toNat + 1) i w
section
variable {S : Sys} {E : Nat → Ev} {rm : Int → Int} {n j : Nat}
theorem ckT_stable (i w : Int) (h0 : 0 ≤ i) : ∀ j : Nat, i < j → ckT E rm j i w = clk E rm i w
  | 0, h => by omega
  | j + 1, h => by
    by_cases e : i = (j : Int)
    · subst e
      unfold clk
      rw [Int.toNat_natCast]
    · have := ckT_stable i w h0 j (by omega)
      rw [← this]
      show (if i = (j : Int) then _ else ckT E rm j i w) = _
      rw [if_neg e]
theorem clk_eq (hok : okE S (stN E j) (E j) = true) (w : Int) : clk E rm j w = maxL ((intoL E rm j).map fun x => clk E rm x w) + (if (E j).who = w then 1 else 0) := by
  have h1 : clk E rm j w = maxL ((intoL E rm j).map fun x => ckT E rm j x w) + (if (E j).who = w then 1 else 0) := by
    unfold clk
    rw [Int.toNat_natCast]
    show (if (j : Int) = (j : Int) then _ else _) = _
    rw [if_pos rfl]
  rw [h1]
  congr 2
  exact List.map_congr_left fun x hx => by
    have := intoL_lt hok hx
    exact ckT_stable x w this.1 j this.2
theorem ckT_nonneg (i w : Int) : ∀ j, 0 ≤ ckT E rm j i w
  | 0 => Int.le_refl _
  | j + 1 => by
    have h := ckT_nonneg i w j
    show 0 ≤ (if i = (j : Int) then _ else ckT E rm j i w)
    split
    · have := maxL_nonneg ((intoL E rm j).map fun x => ckT E rm j x w)
      split <;> omega
    · exact h
theorem clk_nonneg (i w : Int) : 0 ≤ clk E rm i w := ckT_nonneg i w _
theorem ckT_le (w : Int) : ∀ (j : Nat) (i : Int), ckT E rm j i w ≤ j
  | 0, i => Int.le_refl _
  | j + 1, i => by
    have h := ckT_le w j
    show (if i = (j : Int) then _ else ckT E rm j i w) ≤ _
    split
    · have := maxL_bound (l := intoL E rm j) (f := fun x => ckT E rm j x w) (v := j) (by omega) (fun x _ => h x)
      split <;> omega
    · have := h i; omega
theorem clk_le (w : Int) (i : Nat) : clk E rm i w ≤ i + 1 := by
  have := ckT_le (E := E) (rm := rm) w (i + 1) i
  unfold clk
  rw [Int.toNat_natCast]
  omega
end
def rowOf (r : Nat) (f : Int → Int) : List Int := (List.range r).map fun i => f (i : Nat)
theorem rowOf_length (r : Nat) (f : Int → Int) : (rowOf r f).length = r := by simp [rowOf]
theorem rowOf_get (r : Nat) (f : Int → Int) (i : Nat) (h : i < r) : (rowOf r f).getD i 0 = f i := by
  unfold rowOf
  rw [List.getD_eq_getElem?_getD, List.getElem?_map, List.getElem?_range h]
  rfl
theorem rowOf_congr {r : Nat} {f g : Int → Int} (h : ∀ i : Nat, i < r → f i = g i) : rowOf r f = rowOf r g :=
  List.map_congr_left fun i hi => h i (List.mem_range.1 hi)
def mxC (E : Nat → Ev) (rm : Int → Int) (l : List Int) (w : Int) : Int := maxL (l.map fun x => clk E rm x w)
/-- A runner's clock behind j events. -/
def nowC (E : Nat → Ev) (rm : Int → Int) (j : Nat) (i : Int) (w : Int) : Int := mxC E rm (ownL (lkN E j) i) w
def keptB (E : Nat → Ev) (x : Int) : Bool := (E x.toNat).op == 5 || ((E x.toNat).op == 6 || (E x.toNat).op == 7)
/-- The rows that are kept: of events (0), of groups (1), of locks (2). -/
def tkC (E : Nat → Ev) (rm : Int → Int) (r j : Nat) (i : Nat) (a : Int) : List Int :=
  if i = 0 then (if 0 ≤ a ∧ a < j ∧ keptB E a = true then rowOf r (clk E rm a) else [])
  else if i = 1 then (if pickL (isAdd E a) j = [] then [] else rowOf r (mxC E rm (natL (pickL (isAdd E a) j))))
  else (if freeL E a (aftN E a j) j = [] then [] else rowOf r (mxC E rm (natL (freeL E a (aftN E a j) j))))
theorem tkC_len (E : Nat → Ev) (rm : Int → Int) (r j i : Nat) (a : Int) : tkC E rm r j i a = [] ∨ (tkC E rm r j i a).length = r := by
  unfold tkC
  repeat' split
  all_goals first
    | exact .inl rfl
    | exact .inr (rowOf_length _ _)
/-- The links as ticks has them: locks and groups are not in them. -/
def quietE (e : Ev) : Bool := (e.op == 8 || e.op == 9) || (e.op == 10 || e.op == 11)
def lkT (E : Nat → Ev) : Nat → Lk
  | 0 => lk0
  | j + 1 => if quietE (E j) = true then ownK (lkT E j) (E j).who j else nextK (lkT E j) (j : Int) (E j)
def LkEq (k k' : Lk) : Prop := (∀ a, k.rows 0 a = k'.rows 0 a) ∧ (∀ a, k.rows 1 a = k'.rows 1 a) ∧ (∀ a, k.ones 4 a = k'.ones 4 a) ∧ (∀ a, k.ones 5 a = k'.ones 5 a) ∧ ∀ a, k.ones 6 a = k'.ones 6 a
theorem quietE_iff (e : Ev) : quietE e = true ↔ e.op = 8 ∨ e.op = 9 ∨ e.op = 10 ∨ e.op = 11 := by
  simp only [quietE, Bool.or_eq_true, beq_iff_eq]
  omega
theorem lkT_eq (E : Nat → Ev) : ∀ j, LkEq (lkT E j) (lkN E j)
  | 0 => ⟨fun _ => rfl, fun _ => rfl, fun _ => rfl, fun _ => rfl, fun _ => rfl⟩
  | j + 1 => by
    obtain ⟨h0, h1, h4, h5, h6⟩ := lkT_eq E j
    show LkEq (if quietE (E j) = true then _ else _) (nextK (lkN E j) j (E j))
    by_cases hq : quietE (E j) = true
    · rw [if_pos hq]
      rw [quietE_iff] at hq
      refine ⟨fun a => ?_, fun a => ?_, fun a => ?_, fun a => ?_, fun a => ?_⟩
      · rw [nextK_r0, if_neg (by omega)]; exact h0 a
      · rw [nextK_r1, if_neg (by omega)]; exact h1 a
      · rw [nextK_o4]
        by_cases e : (E j).who = a
        · subst e; simp [ownK, updN, updI]
        · rw [if_neg e]
          simp only [ownK, updN, if_true]
          rw [updI_other _ _ _ _ (fun q => e q.symm)]
          exact h4 a
      · rw [nextK_o5, if_neg (by omega)]; simpa [ownK, updN] using h5 a
      · rw [nextK_o6, if_neg (by omega)]; simpa [ownK, updN] using h6 a
    · rw [if_neg hq]
      refine ⟨fun a => ?_, fun a => ?_, fun a => ?_, fun a => ?_, fun a => ?_⟩
      · rw [nextK_r0, nextK_r0, h0]
      · rw [nextK_r1, nextK_r1, h1]
      · rw [nextK_o4, nextK_o4, h4]
      · rw [nextK_o5, nextK_o5, h5]
      · rw [nextK_o6, nextK_o6, h6]
theorem ownL_eq {k k' : Lk} (h : LkEq k k') (who : Int) : ownL k who = ownL k' who := by
  unfold ownL
  rw [h.2.2.1, h.2.2.2.1]
theorem nextR_eq {k k' : Lk} (h : LkEq k k') (rm : Int → Int) (e : Ev) (h8 : e.op ≠ 8) (h11 : e.op ≠ 11) : nextR k rm e = nextR k' rm e := by
  unfold nextR
  rw [ownL_eq h, h.1, h.2.1, h.2.2.2.2, if_neg h8, if_neg h8, if_neg h11, if_neg h11]
theorem nextK_ln (k : Lk) (j : Int) (e : Ev) (i : Nat) (a : Int) : ((nextK k j e).rows i a).length ≤ (k.rows i a).length + 1 := by
  have h : ∀ (R : Nat → Int → List Int) (i' : Nat) (a' : Int) (l : List Int), l.length ≤ (R i' a').length + 1 → ((updN R i' (updI (R i') a' l)) i a).length ≤ (R i a).length + 1 := fun R i' a' l hl => by
    unfold updN
    by_cases e1 : i = i'
    · subst e1
      rw [if_pos rfl]
      by_cases e2 : a = a'
      · subst e2; rw [updI_same]; exact hl
      · rw [updI_other _ _ _ _ e2]; omega
    · rw [if_neg e1]; omega
  unfold nextK
  repeat' split
  all_goals first
    | exact h _ _ _ _ (by simp)
    | exact Nat.le_succ _
theorem lkT_len (E : Nat → Ev) (i : Nat) (a : Int) : ∀ j, ((lkT E j).rows i a).length ≤ j := by
  intro j
  induction j with
  | zero => exact Nat.le_refl _
  | succ j ih =>
    show ((if quietE (E j) = true then ownK (lkT E j) (E j).who j else nextK (lkT E j) (j : Int) (E j)).rows i a).length ≤ j + 1
    split
    · show ((lkT E j).rows i a).length ≤ j + 1
      omega
    · have := nextK_ln (lkT E j) (j : Int) (E j) i a
      omega
section
variable {S : Sys} {E : Nat → Ev} {rm : Int → Int} {r j : Nat}
/-- What the links give to an event, in two parts. -/
theorem mx_split (l m : List Int) (w : Int) : mxC E rm (l ++ m) w = max (mxC E rm l w) (mxC E rm m w) := by
  unfold mxC
  rw [List.map_append, maxL_append]
theorem mx_into (w : Int) : mxC E rm (intoL E rm j) w = mxC E rm (nextR (lkN E j) rm (E j)) w :=
  maxL_map_same _ fun x => (sc_law _).2 x
theorem mx_quiet (h : (E j).op = 9 ∨ (E j).op = 10) (w : Int) : mxC E rm (intoL E rm j) w = nowC E rm j (E j).who w := by
  rw [mx_into]
  unfold nextR
  rw [if_neg (by omega), if_neg (by omega), if_neg (by omega), if_neg (by omega), List.append_nil]
  rfl
theorem mx_wait (h : (E j).op = 11) (w : Int) : mxC E rm (intoL E rm j) w = max (nowC E rm j (E j).who w) (mxC E rm (natL (pickL (isAdd E (E j).a) j)) w) := by
  rw [mx_into]
  unfold nextR
  rw [if_neg (by omega), if_neg (by omega), if_neg (by omega), if_pos h, mx_split, lk_r3]
  rfl
theorem mx_lock (h : (E j).op = 8) (w : Int) : mxC E rm (intoL E rm j) w = max (nowC E rm j (E j).who w) (mxC E rm (natL (freeL E (E j).a (aftN E (E j).a j) j)) w) := by
  rw [mx_into]
  unfold nextR
  rw [if_neg (by omega), if_neg (by omega), if_pos h, mx_split, lk_r2]
  rfl
theorem nthV_in {p : Nat → Bool} {m : Nat} (h : 0 ≤ nthV p j m) : ∃ i : Nat, nthV p j m = (i : Int) ∧ i < j ∧ p i = true := by
  unfold nthV at h ⊢
  cases hm : (pickL p j)[m]? with
  | none => rw [hm] at h; simp at h
  | some i =>
    have := (pickL_mem p j i).1 (List.mem_of_getElem? hm)
    exact ⟨i, rfl, this.1, this.2⟩
theorem shutN_op {E : Nat → Ev} {a i : Int} : ∀ {j : Nat}, shutN E a j = some i → (E i.toNat).op = 7
  | 0, h => by simp [shutN] at h
  | j + 1, h => by
    unfold shutN at h
    split at h
    · rename_i hq
      cases h
      rw [Int.toNat_natCast]
      exact hq.1
    · exact shutN_op h
/-- Besides the runner's own, only kept events lead to one that is neither on a lock nor on a group. -/
theorem into_kept (hok : okE S (stN E j) (E j) = true) (hq : quietE (E j) = false) {x : Int} (hx : x ∈ intoL E rm j) : x ∈ ownL (lkN E j) (E j).who ∨ keptB E x = true := by
  obtain ⟨h1, h2⟩ := (intoL_mem hok x).1 hx
  rcases List.mem_append.1 h1 with h | h
  · exact .inl h
  · refine .inr ?_
    have hq' : ¬ ((E j).op = 8 ∨ (E j).op = 9 ∨ (E j).op = 10 ∨ (E j).op = 11) := fun h => by rw [(quietE_iff _).2 h] at hq; cases hq
    unfold refM at h
    split at h
    · split at h
      · cases hs : shutN E (E j).a j with
        | none => rw [hs] at h; simp at h
        | some i =>
          rw [hs] at h
          obtain rfl : x = i := by simpa using h
          simp [keptB, shutN_op hs]
      · obtain rfl := List.mem_singleton.1 h
        obtain ⟨i, e, _, hp⟩ := nthV_in h2
        rw [e]
        simp only [isSend, Bool.and_eq_true, decide_eq_true_eq] at hp
        simp [keptB, hp.1]
    · split at h
      · split at h
        · obtain rfl := List.mem_singleton.1 h
          obtain ⟨i, e, _, hp⟩ := nthV_in h2
          rw [e]
          simp only [isTake, Bool.and_eq_true, decide_eq_true_eq] at hp
          simp [keptB, hp.1]
        · simp at h
      · rw [if_neg (by omega), if_neg (by omega)] at h
        simp at h
theorem mx_other (hok : okE S (stN E j) (E j) = true) (hq : quietE (E j) = false) (w : Nat) (hw : w < r) :
    mxC E rm (intoL E rm j) w = max (nowC E rm j (E j).who w) (maxL ((intoL E rm j).map fun x => (tkC E rm r j 0 x).getD w 0)) := by
  have hk : ∀ x, x ∈ intoL E rm j → (tkC E rm r j 0 x).getD w 0 = if keptB E x = true then clk E rm x w else 0 := fun x hx => by
    have h := intoL_lt hok hx
    unfold tkC
    rw [if_pos rfl]
    by_cases hb : keptB E x = true
    · rw [if_pos ⟨h.1, h.2, hb⟩, if_pos hb, rowOf_get _ _ _ hw]
    · rw [if_neg (fun q => hb q.2.2), if_neg hb]; rfl
  have h0 := maxL_nonneg ((intoL E rm j).map fun x => (tkC E rm r j 0 x).getD w 0)
  have h0' : 0 ≤ nowC E rm j (E j).who w := maxL_nonneg _
  have sub : ∀ x, x ∈ ownL (lkN E j) (E j).who → x ∈ intoL E rm j := fun x hx => (intoL_mem hok x).2 ⟨List.mem_append.2 (.inl hx), (ownL_pos hx).1⟩
  refine maxL_eq (by omega) (fun y hy => ?_) ?_
  · obtain ⟨x, hx, rfl⟩ := List.mem_map.1 hy
    rcases into_kept hok hq hx with h | h
    · have h1 : clk E rm x w ≤ nowC E rm j (E j).who w := maxL_le (List.mem_map.2 ⟨x, h, rfl⟩)
      omega
    · have h1 : (tkC E rm r j 0 x).getD w 0 ≤ maxL ((intoL E rm j).map fun x => (tkC E rm r j 0 x).getD w 0) := maxL_le (List.mem_map.2 ⟨x, hx, rfl⟩)
      rw [hk x hx, if_pos h] at h1
      omega
  · by_cases hc : maxL ((intoL E rm j).map fun x => (tkC E rm r j 0 x).getD w 0) ≤ nowC E rm j (E j).who w
    · rw [show max (nowC E rm j (E j).who w) (maxL ((intoL E rm j).map fun x => (tkC E rm r j 0 x).getD w 0)) = nowC E rm j (E j).who w by omega]
      rcases maxL_mem ((ownL (lkN E j) (E j).who).map fun x => clk E rm x w) with h | h
      · exact .inl h
      · obtain ⟨x, hx, e⟩ := List.mem_map.1 h
        exact .inr (List.mem_map.2 ⟨x, sub x hx, e⟩)
    · rw [show max (nowC E rm j (E j).who w) (maxL ((intoL E rm j).map fun x => (tkC E rm r j 0 x).getD w 0)) = maxL ((intoL E rm j).map fun x => (tkC E rm r j 0 x).getD w 0) by omega]
      rcases maxL_mem ((intoL E rm j).map fun x => (tkC E rm r j 0 x).getD w 0) with h | h
      · exact .inl h
      · obtain ⟨x, hx, e⟩ := List.mem_map.1 h
        rw [hk x hx] at e
        split at e
        · exact .inr (List.mem_map.2 ⟨x, hx, e⟩)
        · omega
theorem clk_up (hok : okE S (stN E j) (E j) = true) : updI (mxC E rm (intoL E rm j)) (E j).who (mxC E rm (intoL E rm j) (E j).who + 1) = clk E rm j := by
  funext w
  rw [clk_eq hok]
  by_cases h : w = (E j).who
  · subst h
    rw [updI_same, if_pos rfl]
    rfl
  · rw [updI_other _ _ _ _ h, if_neg (fun q => h q.symm), Int.add_zero]
    rfl
theorem mx_one (x w : Int) : mxC E rm [x] w = clk E rm x w := by
  have := clk_nonneg (E := E) (rm := rm) x w
  simp only [mxC, List.map_cons, List.map_nil, maxL]
  omega
theorem now_self : nowC E rm (j + 1) (E j).who = clk E rm j := by
  funext w
  unfold nowC
  rw [ownL_lk]
  have e : lastN E (E j).who (j + 1) = some (j : Int) := by unfold lastN; rw [if_pos rfl]
  rw [e]
  exact mx_one _ _
theorem now_other {i : Int} (h1 : (E j).who ≠ i) (h2 : ¬ ((E j).op = 14 ∧ 0 < (E j).v ∧ (E j).v = i)) : nowC E rm (j + 1) i = nowC E rm j i := by
  funext w
  unfold nowC
  have e1 : lastN E i (j + 1) = lastN E i j := by
    show (if (E j).who = i then _ else _) = _
    rw [if_neg h1]
  have e2 : bornN E i (j + 1) = bornN E i j := by
    show (if (E j).op = 14 ∧ 0 < (E j).v ∧ (E j).v = i then _ else _) = _
    rw [if_neg h2]
  rw [ownL_lk, ownL_lk, e1, e2]
theorem lastN_none {i : Int} : ∀ {j : Nat}, (∀ k, k < j → (E k).who ≠ i) → lastN E i j = none
  | 0, _ => rfl
  | j + 1, h => by
    unfold lastN
    rw [if_neg (h j (by omega))]
    exact lastN_none fun k hk => h k (by omega)
theorem bornN_none {i : Int} : ∀ {j : Nat}, (∀ k, k < j → (E k).op = 14 → 0 < (E k).v → (E k).v ≠ i) → bornN E i j = none
  | 0, _ => rfl
  | j + 1, h => by
    unfold bornN
    rw [if_neg (fun q => h j (by omega) q.1 q.2.1 q.2.2)]
    exact bornN_none fun k hk => h k (by omega)
theorem stN_r_mono (E : Nat → Ev) : ∀ {k j : Nat}, k ≤ j → (stN E k).r ≤ (stN E j).r
  | k, 0, h => by obtain rfl : k = 0 := by omega
                  exact Int.le_refl _
  | k, j + 1, h => by
    by_cases e : k = j + 1
    · subst e; exact Int.le_refl _
    · have h1 := stN_r_mono E (k := k) (j := j) (by omega)
      have h2 := (nextE_r (stN E j) (E j)).1
      show _ ≤ (nextE (stN E j) (E j)).r
      omega
theorem fresh_none (h : OkAll S E j) {i : Int} (hi : (stN E j).r ≤ i) : lastN E i j = none ∧ bornN E i j = none := by
  refine ⟨lastN_none fun k hk e => ?_, bornN_none fun k hk h14 hv e => ?_⟩
  · have h1 := h k hk
    unfold okE headE at h1
    simp only [Bool.and_eq_true, decide_eq_true_eq] at h1
    have h2 := stN_r_mono E (show k ≤ j by omega)
    have := h1.1.2.1
    omega
  · have h1 := h k hk
    unfold okE bodyE at h1
    rw [if_pos h14] at h1
    simp only [Bool.and_eq_true, decide_eq_true_eq, Bool.or_eq_true] at h1
    have h2 := stN_r_mono E (show k + 1 ≤ j by omega)
    have h3 : (stN E (k + 1)).r = (stN E k).r + 1 := by
      show (nextE (stN E k) (E k)).r = _
      unfold nextE
      rw [if_pos h14, if_neg (by omega)]
    have := h1.2
    omega
theorem now_fresh (h : OkAll S E j) {i : Int} (hi : (stN E j).r ≤ i) : nowC E rm j i = fun _ => 0 := by
  funext w
  unfold nowC
  obtain ⟨h1, h2⟩ := fresh_none h hi
  rw [ownL_lk, h1, h2]
  rfl
theorem now_born (h : OkAll S E j) {i : Int} (hi : (stN E j).r ≤ i) (h14 : (E j).op = 14) (hv : 0 < (E j).v) (he : (E j).v = i) (hw : (E j).who ≠ i) : nowC E rm (j + 1) i = clk E rm j := by
  funext w
  unfold nowC
  obtain ⟨h1, h2⟩ := fresh_none h hi
  have e1 : lastN E i (j + 1) = none := by
    show (if (E j).who = i then _ else _) = _
    rw [if_neg hw, h1]
  have e2 : bornN E i (j + 1) = some (j : Int) := by
    show (if (E j).op = 14 ∧ 0 < (E j).v ∧ (E j).v = i then _ else _) = _
    rw [if_pos ⟨h14, hv, he⟩]
  rw [ownL_lk, e1, e2]
  exact mx_one _ _
theorem keptB_nat (j : Nat) : keptB E j = ((E j).op == 5 || ((E j).op == 6 || (E j).op == 7)) := by unfold keptB; rw [Int.toNat_natCast]
theorem tk_keep (h : keptB E j = true) : tkC E rm r (j + 1) 0 = updI (tkC E rm r j 0) (j : Int) (rowOf r (clk E rm j)) := by
  funext a
  by_cases e : a = (j : Int)
  · subst e
    rw [updI_same]
    unfold tkC
    rw [if_pos rfl, if_pos ⟨by omega, by omega, h⟩]
  · rw [updI_other _ _ _ _ e]
    unfold tkC
    rw [if_pos rfl, if_pos rfl]
    by_cases h2 : 0 ≤ a ∧ a < j ∧ keptB E a = true
    · rw [if_pos h2, if_pos ⟨h2.1, by omega, h2.2.2⟩]
    · rw [if_neg h2, if_neg (fun q => h2 ⟨q.1, by omega, q.2.2⟩)]
theorem tk_keep_not (h : keptB E j = false) : tkC E rm r (j + 1) 0 = tkC E rm r j 0 := by
  funext a
  unfold tkC
  rw [if_pos rfl, if_pos rfl]
  by_cases e : a = (j : Int)
  · subst e
    rw [if_neg (by rw [h]; simp), if_neg (by omega)]
  · by_cases h2 : 0 ≤ a ∧ a < j ∧ keptB E a = true
    · rw [if_pos h2, if_pos ⟨h2.1, by omega, h2.2.2⟩]
    · rw [if_neg h2, if_neg (fun q => h2 ⟨q.1, by omega, q.2.2⟩)]
end
end Go.Proofs.Ytakmcpadkanggaa
namespace Go.Proofs.Ytakmcpadkanggaa
open Go.RowKit Go.Maps Go.Deep
/-- A row that is nothing, or as long as a clock. -/
def RowR (r : Nat) (xs : List Int) : Prop := xs = [] ∨ xs.length = r
theorem jmax_at {r : Nat} {c : Int → Int} {xs : List Int} (hx : RowR r xs) (hc : ∀ w, 0 ≤ c w) {w : Nat} (hw : w < r) : jmax c xs xs.length w = max (c w) (xs.getD w 0) := by
  have := hc w
  rcases hx with rfl | hx
  · rw [List.length_nil, jmax_zero]
    simp only [List.getD_nil]
    omega
  · unfold jmax
    rw [if_pos (by omega), Int.toNat_natCast]
section
variable {S : Sys} {E : Nat → Ev} {rm : Int → Int} {r j : Nat}
theorem tkC_row (i : Nat) (a : Int) : RowR r (tkC E rm r j i a) := tkC_len E rm r j i a
theorem tkC_at1 (a : Int) {w : Nat} (hw : w < r) : (tkC E rm r j 1 a).getD w 0 = mxC E rm (natL (pickL (isAdd E a) j)) w := by
  unfold tkC
  rw [if_neg (by decide), if_pos rfl]
  split
  · rename_i h; rw [h]; rfl
  · exact rowOf_get _ _ _ hw
theorem tkC_at2 (a : Int) {w : Nat} (hw : w < r) : (tkC E rm r j 2 a).getD w 0 = mxC E rm (natL (freeL E a (aftN E a j) j)) w := by
  unfold tkC
  rw [if_neg (by decide), if_neg (by decide)]
  split
  · rename_i h; rw [h]; rfl
  · exact rowOf_get _ _ _ hw
theorem now_nonneg (i w : Int) : 0 ≤ nowC E rm j i w := maxL_nonneg _
theorem wait_now (h : (E j).op = 11) : ∀ w : Nat, w < r → (jmax (nowC E rm j (E j).who) (tkC E rm r j 1 (E j).a) (tkC E rm r j 1 (E j).a).length) (w : Int) = (mxC E rm (intoL E rm j)) (w : Int) :=
  fun w hw => by rw [jmax_at (tkC_row 1 _) (now_nonneg _) hw, tkC_at1 _ hw, mx_wait h]
theorem lock_now (h : (E j).op = 8) : ∀ w : Nat, w < r → (jmax (nowC E rm j (E j).who) (tkC E rm r j 2 (E j).a) (tkC E rm r j 2 (E j).a).length) (w : Int) = (mxC E rm (intoL E rm j)) (w : Int) :=
  fun w hw => by rw [jmax_at (tkC_row 2 _) (now_nonneg _) hw, tkC_at2 _ hw, mx_lock h]
/-- Behind q of the events from which edges lead. -/
def foldC (E : Nat → Ev) (rm : Int → Int) (r j q : Nat) (w : Int) : Int := max (nowC E rm j (E j).who w) (maxL (((intoL E rm j).take q).map fun x => (tkC E rm r j 0 x).getD w.toNat 0))
theorem fold_zero : foldC E rm r j 0 = nowC E rm j (E j).who := by
  funext w
  have := now_nonneg (E := E) (rm := rm) (j := j) (E j).who w
  simp only [foldC, List.take_zero, List.map_nil, maxL]
  omega
theorem fold_succ {q : Nat} (hq : q < (intoL E rm j).length) : ∀ w : Nat, w < r → (jmax (foldC E rm r j q) (tkC E rm r j 0 ((intoL E rm j).getD q 0)) (tkC E rm r j 0 ((intoL E rm j).getD q 0)).length) (w : Int) = (foldC E rm r j (q + 1)) (w : Int) :=
  fun w hw => by
    have h0 : ∀ w, 0 ≤ foldC E rm r j q w := fun w => by
      have := now_nonneg (E := E) (rm := rm) (j := j) (E j).who w
      unfold foldC
      omega
    rw [jmax_at (tkC_row 0 _) h0 hw]
    unfold foldC
    rw [List.take_succ_eq_append_getElem hq, List.map_append, maxL_append, List.getD_eq_getElem?_getD (l := intoL E rm j), List.getElem?_eq_getElem hq]
    have h1 := maxL_nonneg (((intoL E rm j).take q).map fun x => (tkC E rm r j 0 x).getD ((w : Int)).toNat 0)
    simp only [List.map_cons, List.map_nil, maxL, Option.getD_some, Int.toNat_natCast] at h1 ⊢
    omega
theorem fold_all (hok : okE S (stN E j) (E j) = true) (hq : quietE (E j) = false) : ∀ w : Nat, w < r → (foldC E rm r j (intoL E rm j).length) (w : Int) = (mxC E rm (intoL E rm j)) (w : Int) :=
  fun w hw => by
    rw [mx_other hok hq w hw]
    unfold foldC
    rw [List.take_length, Int.toNat_natCast]
theorem own_now (h : (E j).op = 9 ∨ (E j).op = 10) : ∀ w : Nat, w < r → (nowC E rm j (E j).who) (w : Int) = (mxC E rm (intoL E rm j)) (w : Int) := fun w _ => by rw [mx_quiet h]
theorem tk_add (h : (E j).op = 10) : tkC E rm r (j + 1) 1 = updI (tkC E rm r j 1) (E j).a (rowOf r (jmax (clk E rm j) (tkC E rm r j 1 (E j).a) (tkC E rm r j 1 (E j).a).length)) := by
  funext a
  by_cases e : a = (E j).a
  · subst e
    rw [updI_same]
    have hp : pickL (isAdd E (E j).a) (j + 1) = pickL (isAdd E (E j).a) j ++ [j] := by rw [pickL_succ, if_pos (by simp [isAdd, h])]
    show (if (1 : Nat) = 0 then _ else if (1 : Nat) = 1 then (if pickL (isAdd E (E j).a) (j + 1) = [] then [] else _) else _) = _
    rw [if_neg (by decide), if_pos rfl, if_neg (by rw [hp]; simp), hp]
    refine rowOf_congr fun w hw => ?_
    rw [jmax_at (tkC_row 1 _) (fun w => clk_nonneg _ w) hw, tkC_at1 _ hw, natL_append, mx_split, show natL [j] = [(j : Int)] from rfl, mx_one]
    omega
  · rw [updI_other _ _ _ _ e]
    have hp : pickL (isAdd E a) (j + 1) = pickL (isAdd E a) j := by rw [pickL_succ, if_neg (by simp only [isAdd, Bool.and_eq_true, decide_eq_true_eq]; exact fun q => e q.2.symm), List.append_nil]
    show (if (1 : Nat) = 0 then _ else if (1 : Nat) = 1 then (if pickL (isAdd E a) (j + 1) = [] then [] else _) else _) = _
    rw [hp]
    rfl
theorem tk_add_not (h : (E j).op ≠ 10) : tkC E rm r (j + 1) 1 = tkC E rm r j 1 := by
  funext a
  have hp : pickL (isAdd E a) (j + 1) = pickL (isAdd E a) j := by rw [pickL_succ, if_neg (by simp only [isAdd, Bool.and_eq_true, decide_eq_true_eq]; exact fun q => h q.1), List.append_nil]
  show (if (1 : Nat) = 0 then _ else if (1 : Nat) = 1 then (if pickL (isAdd E a) (j + 1) = [] then [] else _) else _) = _
  rw [hp]
  rfl
theorem free_succ (a : Int) (h8 : ¬ ((E j).op = 8 ∧ (E j).a = a)) : aftN E a (j + 1) = aftN E a j := by
  show (if (E j).op = 8 ∧ (E j).a = a then j else aftN E a j) = _
  rw [if_neg h8]
theorem free_not (a : Int) (m : Nat) (h9 : ¬ ((E j).op = 9 ∧ (E j).a = a)) : freeL E a m (j + 1) = freeL E a m j := by
  show pickL _ (j + 1) = _
  rw [pickL_succ, if_neg (by simp only [isFree, Bool.and_eq_true, decide_eq_true_eq]; exact fun q => h9 q.1), List.append_nil]
  rfl
theorem tk2 (j : Nat) (a : Int) : tkC E rm r j 2 a = if freeL E a (aftN E a j) j = [] then [] else rowOf r (mxC E rm (natL (freeL E a (aftN E a j) j))) := by
  unfold tkC
  rw [if_neg (by decide), if_neg (by decide)]
theorem tk_free (h : (E j).op = 9) : tkC E rm r (j + 1) 2 = updI (tkC E rm r j 2) (E j).a (rowOf r (jmax (clk E rm j) (tkC E rm r j 2 (E j).a) (tkC E rm r j 2 (E j).a).length)) := by
  funext a
  have h8 : ¬ ((E j).op = 8 ∧ (E j).a = a) := by omega
  by_cases e : a = (E j).a
  · subst e
    rw [updI_same, tk2 (j + 1), free_succ _ h8]
    have hp : freeL E (E j).a (aftN E (E j).a j) (j + 1) = freeL E (E j).a (aftN E (E j).a j) j ++ [j] := by
      have := aftN_le E (E j).a j
      show pickL _ (j + 1) = _
      rw [pickL_succ, if_pos (by simp [isFree, h, this])]
      rfl
    rw [if_neg (by rw [hp]; simp), hp]
    refine rowOf_congr fun w hw => ?_
    rw [jmax_at (tkC_row 2 _) (fun w => clk_nonneg _ w) hw, tkC_at2 _ hw, natL_append, mx_split, show natL [j] = [(j : Int)] from rfl, mx_one]
    omega
  · rw [updI_other _ _ _ _ e, tk2 (j + 1), free_succ _ h8, free_not _ _ (fun q => e q.2.symm), ← tk2]
theorem tk_lock (h : (E j).op = 8) : tkC E rm r (j + 1) 2 = updI (tkC E rm r j 2) (E j).a [] := by
  funext a
  have h9 : ¬ ((E j).op = 9 ∧ (E j).a = a) := by omega
  by_cases e : a = (E j).a
  · subst e
    rw [updI_same, tk2 (j + 1)]
    have e1 : aftN E (E j).a (j + 1) = j := by
      show (if (E j).op = 8 ∧ (E j).a = (E j).a then j else _) = _
      rw [if_pos ⟨h, rfl⟩]
    rw [e1, free_not _ _ h9, freeL_none _ _ _ _ (Nat.le_refl _), if_pos rfl]
  · rw [updI_other _ _ _ _ e, tk2 (j + 1), free_succ _ (fun q => e q.2.symm), free_not _ _ h9, ← tk2]
theorem tk_free_not (h8 : (E j).op ≠ 8) (h9 : (E j).op ≠ 9) : tkC E rm r (j + 1) 2 = tkC E rm r j 2 := by
  funext a
  rw [tk2 (j + 1), free_succ _ (fun q => h8 q.1), free_not _ _ (fun q => h9 q.1), ← tk2]
end
end Go.Proofs.Ytakmcpadkanggaa

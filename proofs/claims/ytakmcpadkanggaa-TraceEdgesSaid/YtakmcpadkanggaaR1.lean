/-
  The document's within, rising, nth.
-/
import Derived.Test.YtakmcpadkanggaaT15
import Derived.Test.YtakmcpadkanggaaK0
import Derived.Test.YtakmcpadkanggaaHeld2
namespace Go.Proofs.Ytakmcpadkanggaa
open Go.RowKit Go.Maps Go.Deep

section
variable {w : World}
def NotIn (xs : List Int) (x : Int) (k : Nat) : Prop := ∀ j, j < k → xs.getD j 0 ≠ x
theorem notIn_end {xs : List Int} {x : Int} (h : NotIn xs x xs.length) : decide (x ∈ xs) = false := by
  refine decide_eq_false fun hm => ?_
  obtain ⟨j, hj, e⟩ := List.getElem_of_mem hm
  exact h j hj (by rw [List.getD_eq_getElem?_getD, List.getElem?_eq_getElem hj]; exact e)
theorem in_at {xs : List Int} {x : Int} {k : Nat} (hk : k < xs.length) (h : xs.getD k 0 = x) : decide (x ∈ xs) = true := by
  refine decide_eq_true ?_
  rw [← h, List.getD_eq_getElem?_getD, List.getElem?_eq_getElem hk]
  exact List.getElem_mem hk
set_option maxRecDepth 100000 in
theorem within_any (v : Value) (xs : List Int) (x : Int) (b : Bool) (hn : xs.length ≤ 5000000) (hI : IntL w v xs) (hb : decide (x ∈ xs) = b) : Calls Try.prog 82 #[v, .int .i64 x] w fun e w' => e = .returned (.bool b) ∧ w = w' := by
  obtain ⟨A, c, rfl, hx⟩ := hI
  obtain ⟨m, hl⟩ : ∃ m, xs.length = m := ⟨_, rfl⟩
  have HX := Lib.hid hx
  have HB := Lib.hid hb
  have HL := Lib.hid hl
  rw [hl] at hn ⊢
  clear hx hb hl
  go_enter Try.func82, Try.ntmps82
  go_wp2
  go_loop [5] (fun i => ∃ k : Nat, k ≤ m ∧ i = .int .i64 k ∧ NotIn xs x k) (fun i => m - (intOf i).toNat)
  case atStart => exact ⟨0, by omega, rfl, fun j hj => by omega⟩
  case round =>
    obtain ⟨k, hk, rfl, hN⟩ := hrel
    by_cases hlt : k < m
    · have g1 : ((k : Int)) < m := by omega
      have g0 : (0 : Int) ≤ k := by omega
      have HK := Lib.hid (show k < xs.length by rw [HL.out]; exact hlt)
      obtain ⟨ad, rfl, _, hc⟩ := HX.out (by have := HK.out; omega)
      have c1 := hc k HK.out
      have HN := Lib.hid hN
      clear hc hN
      by_cases he : xs.getD k 0 = x
      · have HT := Lib.hid (HB.out.symm.trans (in_at HK.out he))
        rw [he] at c1
        clear he
        go_wp2
        go_ret
        exact ⟨by rw [HT.out]; rfl, rfl⟩
      · have HE := Lib.hid he
        have e1 : (xs.getD k 0 == x) = false := by simpa using he
        clear he
        obtain ⟨y, hy⟩ : ∃ y, y = xs.getD k 0 := ⟨_, rfl⟩
        rw [← hy] at c1 e1
        have HY := Lib.hid hy
        clear hy
        go_wp2
        clear c1 e1
        go_round
        case rel => exact ⟨k + 1, by omega, by go_num, fun j hj => by
          by_cases e : j = k
          · rw [e]; exact HE.out
          · exact HN.out j (by omega)⟩
        case measure => (simp [intOf] <;> omega)
    · obtain rfl : k = m := by omega
      have HT := Lib.hid (HB.out.symm.trans (notIn_end (by rw [HL.out]; exact hN)))
      clear hN
      go_wp2
      go_ret
      exact ⟨by rw [HT.out]; rfl, rfl⟩
end

/-! ### nth -/
/-- The answer of nth. -/
def nthV (p : Nat → Bool) (j m : Nat) : Int := match (pickL p j)[m]? with | some i => (i : Int) | none => -1
section
variable {w : World} {n : Nat} {E : Nat → Ev} {B : Option Addr} {cb : Nat}
set_option maxRecDepth 100000 in
set_option maxHeartbeats 1000000 in
theorem nth_5 (hE : EvsAt w B n E) (hn : n ≤ 40000) (j : Nat) (hj : j ≤ n) (q : Int) (m : Nat) (hm : m ≤ 1000000) : Calls Try.prog 97 #[.slice B n cb, .int .i64 (j : Int), .int .i64 5, .int .i64 q, .int .i64 (m : Int)] w fun e w' => e = .returned (.int .i64 (nthV (isSend E q) j m)) ∧ w = w' := by
  have HE := Lib.hid hE
  clear hE
  go_enter Try.func97, Try.ntmps97
  go_wp2
  go_loop [11, 4] (fun i x => ∃ k r : Nat, k ≤ j ∧ r + (pickL (isSend E q) k).length = m ∧ i = .int .i64 k ∧ x = .int .i64 r) (fun i _ => j - (intOf i).toNat)
  case atStart => exact ⟨0, m, by omega, by simp [pickL], rfl, rfl⟩
  case round =>
    obtain ⟨k, r, hk, hr, rfl, rfl⟩ := hrel
    have HR := Lib.hid hr
    have hrm : r ≤ m := by omega
    clear hr
    by_cases hlt : k < j
    · have g1 : ((k : Int)) < j := by omega
      have g2 : ((k : Int)) < n := by omega
      have g0 : (0 : Int) ≤ k := by omega
      obtain ⟨ad, rfl, hc⟩ := EvsAt.row (u := w) HE.out (show k < n by omega)
      have c1 : w.cell? ⟨(ad.add (k * 5)).block, (ad.add (k * 5)).off + 1, none⟩ = some (.int .i64 (E k).op) := hc [] w (Keeps.refl _ _) (by simp) 1 (by show 1 < 5; omega)
      have c2 : w.cell? ⟨(ad.add (k * 5)).block, (ad.add (k * 5)).off + 2, none⟩ = some (.int .i64 (E k).a) := hc [] w (Keeps.refl _ _) (by simp) 2 (by show 2 < 5; omega)
      have c4 : w.cell? ⟨(ad.add (k * 5)).block, (ad.add (k * 5)).off + 4, none⟩ = some (.bool (E k).sh) := hc [] w (Keeps.refl _ _) (by simp) 4 (by show 4 < 5; omega)
      clear hc
      by_cases ho : (E k).op = 5
      · by_cases ha : (E k).a = q
        · rw [ho] at c1
          rw [ha] at c2
          have hp : isSend E q k = true := by simp [isSend, ho, ha]
          clear ho ha
          by_cases h0 : r = 0
          · have HV := Lib.hid (show nthV (isSend E q) j m = (k : Int) by
              have h1 := pickL_at (isSend E q) hlt hp
              have h2 := HR.out
              rw [h0, Nat.zero_add] at h2
              unfold nthV
              rw [← h2, h1])
            subst h0
            clear hp
            go_wp2_with (first | go_big_skip)
            go_ret
            exact ⟨by rw [HV.out]; rfl, rfl⟩
          · have g4 : ¬ ((r : Int) = 0) := by omega
            have g5 : ((r : Int) == 0) = false := by simpa using g4
            have HN := Lib.hid (show (pickL (isSend E q) (k + 1)).length = (pickL (isSend E q) k).length + 1 by rw [pickL_succ, if_pos hp]; simp)
            have g6 : (1 : Int) ≤ r := by omega
            clear hp
            go_wp2_with (first | go_big_skip)
            clear c1 c2 c4 g4 g5
            go_round
            case rel => exact ⟨k + 1, r - 1, by omega, by rw [HN.out]; have := HR.out; omega, by go_num, by congr 1; omega⟩
            case measure => (simp [intOf] <;> omega)
        · have HN := Lib.hid (show (pickL (isSend E q) (k + 1)).length = (pickL (isSend E q) k).length by rw [pickL_succ, if_neg (by simp [isSend, ha]), List.append_nil])
          rw [ho] at c1
          have ea : ((E k).a == q) = false := by simpa using ha
          clear ho ha
          generalize (E k).a = a at c2 ea
          generalize (E k).sh = sh at c4
          go_wp2_with (first | go_big_skip)
          clear c1 c2 c4
          go_round
          case rel => exact ⟨k + 1, r, by omega, by rw [HN.out]; exact HR.out, by go_num, rfl⟩
          case measure => (simp [intOf] <;> omega)
      · have HN := Lib.hid (show (pickL (isSend E q) (k + 1)).length = (pickL (isSend E q) k).length by rw [pickL_succ, if_neg (by simp [isSend, ho]), List.append_nil])
        have ea : ((E k).op == 5) = false := by simpa using ho
        clear ho
        generalize (E k).op = op at c1 ea
        generalize (E k).a = a at c2
        generalize (E k).sh = sh at c4
        go_wp2_with (first | go_big_skip)
        clear c1 c2 c4
        go_round
        case rel => exact ⟨k + 1, r, by omega, by rw [HN.out]; exact HR.out, by go_num, rfl⟩
        case measure => (simp [intOf] <;> omega)
    · obtain rfl : k = j := by omega
      have HV := Lib.hid (show nthV (isSend E q) k m = -1 by
        unfold nthV
        rw [List.getElem?_eq_none (by have := HR.out; omega)])
      go_wp2
      go_ret
      exact ⟨by rw [HV.out]; rfl, rfl⟩
set_option maxRecDepth 100000 in
set_option maxHeartbeats 1000000 in
theorem nth_6 (hE : EvsAt w B n E) (hn : n ≤ 40000) (j : Nat) (hj : j ≤ n) (q : Int) (m : Nat) (hm : m ≤ 1000000) : Calls Try.prog 97 #[.slice B n cb, .int .i64 (j : Int), .int .i64 6, .int .i64 q, .int .i64 (m : Int)] w fun e w' => e = .returned (.int .i64 (nthV (isTake E q) j m)) ∧ w = w' := by
  have HE := Lib.hid hE
  clear hE
  go_enter Try.func97, Try.ntmps97
  go_wp2
  go_loop [11, 4] (fun i x => ∃ k r : Nat, k ≤ j ∧ r + (pickL (isTake E q) k).length = m ∧ i = .int .i64 k ∧ x = .int .i64 r) (fun i _ => j - (intOf i).toNat)
  case atStart => exact ⟨0, m, by omega, by simp [pickL], rfl, rfl⟩
  case round =>
    obtain ⟨k, r, hk, hr, rfl, rfl⟩ := hrel
    have HR := Lib.hid hr
    have hrm : r ≤ m := by omega
    clear hr
    by_cases hlt : k < j
    · have g1 : ((k : Int)) < j := by omega
      have g2 : ((k : Int)) < n := by omega
      have g0 : (0 : Int) ≤ k := by omega
      obtain ⟨ad, rfl, hc⟩ := EvsAt.row (u := w) HE.out (show k < n by omega)
      have c1 : w.cell? ⟨(ad.add (k * 5)).block, (ad.add (k * 5)).off + 1, none⟩ = some (.int .i64 (E k).op) := hc [] w (Keeps.refl _ _) (by simp) 1 (by show 1 < 5; omega)
      have c2 : w.cell? ⟨(ad.add (k * 5)).block, (ad.add (k * 5)).off + 2, none⟩ = some (.int .i64 (E k).a) := hc [] w (Keeps.refl _ _) (by simp) 2 (by show 2 < 5; omega)
      have c4 : w.cell? ⟨(ad.add (k * 5)).block, (ad.add (k * 5)).off + 4, none⟩ = some (.bool (E k).sh) := hc [] w (Keeps.refl _ _) (by simp) 4 (by show 4 < 5; omega)
      clear hc
      by_cases ho : (E k).op = 6
      · by_cases ha : (E k).a = q
        · rw [ho] at c1
          rw [ha] at c2
          cases hs : (E k).sh with
          | true =>
            rw [hs] at c4
            have HN := Lib.hid (show (pickL (isTake E q) (k + 1)).length = (pickL (isTake E q) k).length by rw [pickL_succ, if_neg (by simp [isTake, hs]), List.append_nil])
            clear ho ha hs
            go_wp2_with (first | go_big_skip)
            clear c1 c2 c4
            go_round
            case rel => exact ⟨k + 1, r, by omega, by rw [HN.out]; exact HR.out, by go_num, rfl⟩
            case measure => (simp [intOf] <;> omega)
          | false =>
            rw [hs] at c4
            have hp : isTake E q k = true := by simp [isTake, ho, ha, hs]
            clear ho ha hs
            by_cases h0 : r = 0
            · have HV := Lib.hid (show nthV (isTake E q) j m = (k : Int) by
                have h1 := pickL_at (isTake E q) hlt hp
                have h2 := HR.out
                rw [h0, Nat.zero_add] at h2
                unfold nthV
                rw [← h2, h1])
              subst h0
              clear hp
              go_wp2_with (first | go_big_skip)
              go_ret
              exact ⟨by rw [HV.out]; rfl, rfl⟩
            · have g4 : ¬ ((r : Int) = 0) := by omega
              have g5 : ((r : Int) == 0) = false := by simpa using g4
              have HN := Lib.hid (show (pickL (isTake E q) (k + 1)).length = (pickL (isTake E q) k).length + 1 by rw [pickL_succ, if_pos hp]; simp)
              have g6 : (1 : Int) ≤ r := by omega
              clear hp
              go_wp2_with (first | go_big_skip)
              clear c1 c2 c4 g4 g5
              go_round
              case rel => exact ⟨k + 1, r - 1, by omega, by rw [HN.out]; have := HR.out; omega, by go_num, by congr 1; omega⟩
              case measure => (simp [intOf] <;> omega)
        · have HN := Lib.hid (show (pickL (isTake E q) (k + 1)).length = (pickL (isTake E q) k).length by rw [pickL_succ, if_neg (by simp [isTake, ha]), List.append_nil])
          rw [ho] at c1
          have ea : ((E k).a == q) = false := by simpa using ha
          clear ho ha
          generalize (E k).a = a at c2 ea
          generalize (E k).sh = sh at c4
          go_wp2_with (first | go_big_skip)
          clear c1 c2 c4
          go_round
          case rel => exact ⟨k + 1, r, by omega, by rw [HN.out]; exact HR.out, by go_num, rfl⟩
          case measure => (simp [intOf] <;> omega)
      · have HN := Lib.hid (show (pickL (isTake E q) (k + 1)).length = (pickL (isTake E q) k).length by rw [pickL_succ, if_neg (by simp [isTake, ho]), List.append_nil])
        have ea : ((E k).op == 6) = false := by simpa using ho
        clear ho
        generalize (E k).op = op at c1 ea
        generalize (E k).a = a at c2
        generalize (E k).sh = sh at c4
        go_wp2_with (first | go_big_skip)
        clear c1 c2 c4
        go_round
        case rel => exact ⟨k + 1, r, by omega, by rw [HN.out]; exact HR.out, by go_num, rfl⟩
        case measure => (simp [intOf] <;> omega)
    · obtain rfl : k = j := by omega
      have HV := Lib.hid (show nthV (isTake E q) k m = -1 by
        unfold nthV
        rw [List.getElem?_eq_none (by have := HR.out; omega)])
      go_wp2
      go_ret
      exact ⟨by rw [HV.out]; rfl, rfl⟩
end

/-! ### rising -/
def insAt (ys : List Int) (x : Int) (p : Nat) : List Int := ys.take p ++ x :: ys.drop p
theorem insAt_length (ys : List Int) (x : Int) (p : Nat) (h : p ≤ ys.length) : (insAt ys x p).length = ys.length + 1 := by simp [insAt]; omega
theorem insAt_end (ys : List Int) (x : Int) : insAt ys x ys.length = ys ++ [x] := by simp [insAt]
theorem insAt_here (ys : List Int) (x : Int) (p : Nat) (h : p ≤ ys.length) : (insAt ys x p).getD p 0 = x := by
  unfold insAt
  rw [List.getD_eq_getElem?_getD, List.getElem?_append_right (by simp; omega)]
  simp [Nat.min_eq_left h]
theorem insAt_ahead (ys : List Int) (x : Int) (p q : Nat) (h : q < p) (hp : p ≤ ys.length) : (insAt ys x p).getD q 0 = ys.getD q 0 := by
  unfold insAt
  rw [List.getD_eq_getElem?_getD, List.getElem?_append_left (by simp; omega), List.getElem?_take, if_pos h, List.getD_eq_getElem?_getD]
theorem insAt_swap (ys : List Int) (x : Int) (p : Nat) (h : p < ys.length) : ((insAt ys x (p + 1)).set (p + 1) (ys.getD p 0)).set p x = insAt ys x p := by
  apply List.ext_getElem?
  intro j
  have hl : (insAt ys x (p + 1)).length = ys.length + 1 := insAt_length _ _ _ h
  rw [List.getElem?_set, List.getElem?_set]
  simp only [List.length_set, hl]
  unfold insAt
  by_cases e : p = j
  · subst e
    rw [if_pos rfl, if_pos (by omega), List.getElem?_append_right (by simp; omega)]
    simp [Nat.min_eq_left (Nat.le_of_lt h)]
  · rw [if_neg e]
    by_cases e2 : p + 1 = j
    · subst e2
      rw [if_pos rfl, if_pos (by omega), List.getElem?_append_right (by simp; omega)]
      simp [Nat.min_eq_left (Nat.le_of_lt h), show p + 1 - p = 1 by omega, List.getD_eq_getElem?_getD, h]
    · rw [if_neg e2]
      rcases Nat.lt_or_ge j p with hj | hj
      · rw [List.getElem?_append_left (by simp; omega), List.getElem?_append_left (by simp; omega), List.getElem?_take, List.getElem?_take, if_pos (by omega), if_pos hj]
      · rw [List.getElem?_append_right (by simp; omega), List.getElem?_append_right (by simp; omega)]
        simp only [List.length_take, Nat.min_eq_left (show p + 1 ≤ ys.length by omega), Nat.min_eq_left (Nat.le_of_lt h)]
        obtain ⟨r, rfl⟩ : ∃ r, j = p + 2 + r := ⟨j - (p + 2), by omega⟩
        rw [show p + 2 + r - (p + 1) = r + 1 by omega, show p + 2 + r - p = (r + 1) + 1 by omega, List.getElem?_cons_succ, List.getElem?_cons_succ, List.getElem?_drop, List.getElem?_drop]
        congr 1
        omega
/-- Strictly rising, and just those of xs from 0 on. -/
def Rose (ys xs : List Int) : Prop := ys.Pairwise (· < ·) ∧ (∀ x, x ∈ ys ↔ x ∈ xs ∧ 0 ≤ x) ∧ ys.length ≤ xs.length
theorem Rose.nil : Rose [] [] := ⟨List.Pairwise.nil, fun x => by simp, Nat.le_refl _⟩
theorem Rose.skip {ys xs : List Int} {x : Int} (h : Rose ys xs) (hx : x < 0 ∨ x ∈ ys) : Rose ys (xs ++ [x]) := by
  refine ⟨h.1, fun y => ?_, by simp; have := h.2.2; omega⟩
  rw [h.2.1, List.mem_append, List.mem_singleton]
  constructor
  · rintro ⟨a, b⟩; exact ⟨.inl a, b⟩
  · rintro ⟨a | rfl, b⟩
    · exact ⟨a, b⟩
    · rcases hx with hx | hx
      · omega
      · exact (h.2.1 y).1 hx
theorem Rose.put {ys xs : List Int} {x : Int} {p : Nat} (h : Rose ys xs) (hx : 0 ≤ x) (hn : x ∉ ys) (hp : p ≤ ys.length) (hhi : ∀ j, p ≤ j → j < ys.length → x < ys.getD j 0) (hlo : p = 0 ∨ ¬ x < ys.getD (p - 1) 0) : Rose (insAt ys x p) (xs ++ [x]) := by
  have hm : ∀ z, z ∈ insAt ys x p ↔ z ∈ ys ∨ z = x := fun z => by
    unfold insAt
    rw [List.mem_append, List.mem_cons]
    conv => rhs; rw [← List.take_append_drop p ys]
    rw [List.mem_append]
    constructor
    · rintro (a | a | a)
      · exact .inl (.inl a)
      · exact .inr a
      · exact .inl (.inr a)
    · rintro ((a | a) | a)
      · exact .inl a
      · exact .inr (.inr a)
      · exact .inr (.inl a)
  have hs := List.pairwise_iff_getElem.1 h.1
  refine ⟨?_, fun z => ?_, by rw [insAt_length _ _ _ hp]; have := h.2.2; simp; omega⟩
  · unfold insAt
    rw [List.pairwise_append]
    refine ⟨h.1.sublist (List.take_sublist _ _), ?_, ?_⟩
    · rw [List.pairwise_cons]
      refine ⟨fun z hz => ?_, h.1.sublist (List.drop_sublist _ _)⟩
      obtain ⟨j, hj, e⟩ := List.getElem_of_mem hz
      rw [List.getElem_drop] at e
      have hj' : p + j < ys.length := by simp at hj; omega
      have := hhi (p + j) (by omega) hj'
      rw [List.getD_eq_getElem?_getD, List.getElem?_eq_getElem hj', Option.getD_some, e] at this
      exact this
    · intro y hy z hz
      obtain ⟨i, hi, e⟩ := List.getElem_of_mem hy
      rw [List.getElem_take] at e
      have hi' : i < p ∧ i < ys.length := by simp only [List.length_take] at hi; omega
      rcases List.mem_cons.1 hz with rfl | hz
      · rcases hlo with h0 | h0
        · omega
        · rw [List.getD_eq_getElem?_getD, List.getElem?_eq_getElem (show p - 1 < ys.length by omega), Option.getD_some] at h0
          have hne : y ≠ z := fun e' => hn (by rw [← e', ← e]; exact List.getElem_mem _)
          rcases Nat.lt_or_ge i (p - 1) with hlt | hge
          · have := hs i (p - 1) (by omega) (by omega) hlt
            omega
          · obtain rfl : i = p - 1 := by omega
            omega
      · obtain ⟨j, hj, e2⟩ := List.getElem_of_mem hz
        rw [List.getElem_drop] at e2
        have hj' : p + j < ys.length := by simp at hj; omega
        have := hs i (p + j) hi'.2 hj' (by omega)
        omega
  · rw [hm, h.2.1, List.mem_append, List.mem_singleton]
    constructor
    · rintro (⟨a, b⟩ | rfl)
      · exact ⟨.inl a, b⟩
      · exact ⟨.inr rfl, hx⟩
    · rintro ⟨a | a, b⟩
      · exact .inl ⟨a, b⟩
      · exact .inr a
section
variable {ops : Array Oper} {rest : List Oper} {o : Oper} {a : Act} {w W : World} {Q : Exit → Act → World → Prop} {S : List Nat} {L : List Ent} {base : Nat} {v : Value} {xs : List Int}
theorem addr_zero_add (g p : Nat) : (some (Addr.add ⟨g, 0, none⟩ p)) = some (⟨g, p, none⟩ : Addr) := by
  by_cases h : p = 0
  · subst h; rfl
  · simp [Addr.add, h]
/-- A number of a row of one's own is written. -/
theorem mint_store (p : Nat) (x : Int) (ad : Addr) (n c : Nat) (y z : Operand) (O : Own w W S L) (M : Mint base W v xs) (hv : v = .slice (some ad) n c) (hp : p < xs.length) (hgd : o.guard = none) (hdst : o.dst = none) (ho : o.op = .store 3 y z) (hy : a.eval y = .pointer (some (ad.add p))) (hz : a.eval z = .int .i64 x)
    (hb : w.heap.size = base) (hL : ∀ q ∈ L, q.2.1 ≠ 3) (h : ∀ u, Own w u S L → Mint base u v (xs.set p x) → wpList Try.prog ops Q rest a u) : wpList Try.prog ops Q (o :: rest) a W := by
  obtain ⟨hl, ⟨rfl, _⟩ | ⟨g, cap, cur, rfl, hbg, hB, hle, hm, hs, ht⟩⟩ := M
  · cases hv
  · simp only [Value.slice.injEq, Option.some.injEq] at hv
    obtain ⟨rfl, rfl, rfl⟩ := hv
    have hpc : p < cur.size := by omega
    refine wpList_store_blk g p 3 cur (.int .i64 x) hgd hdst ho (by rw [hy, addr_zero_add]) hz hB hpc rfl rfl (by kernel_rfl) fun u K b => ?_
    refine h u ⟨O.keep.trans K (fun q hq hlt => ?_), fun q hq => (O.blk q hq).keeps K (fun hm => ?_), O.new, O.nd⟩ ?_
    · obtain rfl : q = g := by simpa using hq
      omega
    · obtain e : q.1 = g := by simpa using hm
      have h1 := O.blk q hq
      rw [e] at h1
      rw [Blk, hB] at h1
      injection h1 with h1
      injection h1 with _ h1 _
      exact hL q hq h1.symm
    · refine ⟨by simp, .inr ⟨g, cap, _, by simp, hbg, b, by simpa using hle, hm, by simpa using hs, ?_⟩⟩
      rw [Array.toList_setIfInBounds, List.take_set, List.length_set, ht, List.map_set]
end
def RisePost (w : World) (xs : List Int) (e : Ending) (W : World) : Prop := (∃ r ys, e = .returned r ∧ Mint w.heap.size W r ys ∧ Rose ys xs) ∧ Keeps w W []
section
variable {w : World}
theorem own_cellM {W : World} {base : Nat} {v : Value} {xs : List Int} {ad : Addr} {n c : Nat} (M : Mint base W v xs) (hv : v = .slice (some ad) n c) {j : Nat} (hj : j < xs.length) : W.cell? (ad.add j) = some (.int .i64 (xs.getD j 0)) := by
  obtain ⟨A, c', e, hx⟩ := M.list
  obtain ⟨ad', rfl, _, hc⟩ := hx (by omega)
  rw [hv] at e
  cases e
  exact hc j hj
theorem mint_shape {W : World} {base n : Nat} {v : Value} {xs : List Int} (M : Mint base W v xs) (hn : xs.length = n + 1) : ∃ ad c, v = .slice (some ad) (n + 1) c := by
  obtain ⟨A, c, e, hx⟩ := M.list
  obtain ⟨ad, rfl, _⟩ := hx (by omega)
  exact ⟨ad, c, by rw [e, hn]⟩
def Hi (ys : List Int) (x : Int) (p : Nat) : Prop := ∀ j, p ≤ j → j < ys.length → x < ys.getD j 0
theorem hi_end (ys : List Int) (x : Int) {n : Nat} (h : n = ys.length) : Hi ys x n := fun j h1 h2 => by omega
theorem hi_step {ys : List Int} {x : Int} {q : Nat} (h : Hi ys x (q + 1)) (hq : x < ys.getD q 0) : Hi ys x q := fun j h1 h2 => by
  by_cases e : j = q
  · rw [e]; exact hq
  · exact h j (by omega) h2
set_option maxRecDepth 100000 in
set_option maxHeartbeats 2000000 in
theorem rising_any (v0 : Value) (xs : List Int) (hn : xs.length ≤ 1000000) (hI : IntL w v0 xs) : Calls Try.prog 98 #[v0] w (RisePost w xs) := by
  obtain ⟨A, c0, rfl, hx⟩ := hI
  obtain ⟨m, hl⟩ : ∃ m, xs.length = m := ⟨_, rfl⟩
  have HX := Lib.hid hx
  have HL := Lib.hid hl
  rw [hl] at hn ⊢
  clear hx hl
  have O := Own.start w []
  go_enter Try.func98, Try.ntmps98
  go_wp2
  go_loopw [4, 3] (fun i v wr => ∃ (k : Nat) (ys : List Int), k ≤ m ∧ i = .int .i64 k ∧ Own w wr [] [] ∧ Mint w.heap.size wr v ys ∧ Rose ys (xs.take k)) (fun i _ _ => m - (intOf i).toNat)
  case atStart => exact ⟨0, [], by omega, rfl, O, Mint.nil _ _, by rw [List.take_zero]; exact Rose.nil⟩
  case round =>
    obtain ⟨k, ys, hk, rfl, O, M, hR⟩ := hrel
    have HR := Lib.hid hR
    clear hR
    by_cases hlt : k < m
    · have g1 : ((k : Int)) < m := by omega
      have g0 : (0 : Int) ≤ k := by omega
      have HKL := Lib.hid (show k < xs.length by rw [HL.out]; exact hlt)
      obtain ⟨ad0, rfl, hb0, hc0⟩ := HX.out (by have := HKL.out; omega)
      have c1 : wr.cell? (ad0.add k) = some (.int .i64 (xs.getD k 0)) := (O.keep.cellAt (by rw [add_block]; exact hb0) (by simp)).trans (hc0 k HKL.out)
      have HC0 := Lib.hid (And.intro hb0 hc0)
      have HT := Lib.hid (show xs.take (k + 1) = xs.take k ++ [xs.getD k 0] by
        rw [List.take_add_one, List.getElem?_eq_getElem HKL.out, List.getD_eq_getElem?_getD, List.getElem?_eq_getElem HKL.out]; rfl)
      have HYL := Lib.hid (show ys.length ≤ 1000000 by have := HR.out.2.2; rw [List.length_take] at this; omega)
      clear hb0 hc0
      generalize xs.getD k 0 = x at c1 HT HC0
      by_cases hx0 : x < 0
      · have e1 : decide (x < 0) = true := decide_eq_true hx0
        have HNX := Lib.hid (show Rose ys (xs.take (k + 1)) by rw [HT.out]; exact HR.out.skip (.inl hx0))
        clear HT HC0
        go_wp2_with (first | go_big_skip)
        clear c1 e1 hx0
        go_roundw
        case rel => exact ⟨k + 1, ys, by omega, by go_num, O, M, HNX.out⟩
        case measure => (simp [intOf] <;> omega)
      · have e1 : decide (x < 0) = false := decide_eq_false hx0
        have HX0 := Lib.hid (show 0 ≤ x by omega)
        by_cases hin : x ∈ ys
        · have HW := Lib.hid (show decide (x ∈ ys) = true from decide_eq_true hin)
          have HNX := Lib.hid (show Rose ys (xs.take (k + 1)) by rw [HT.out]; exact HR.out.skip (.inr hin))
          clear HT HC0 hin
          go_wp2_with (first
            | go_big_skip
            | (go_at_call 82; refine (within_any _ ys x true (by have := HYL.out; omega) M.list HW.out).mono ?_; rintro e w' ⟨rfl, rfl⟩))
          clear c1 e1 hx0
          go_roundw
          case rel => exact ⟨k + 1, ys, by omega, by go_num, O, M, HNX.out⟩
          case measure => (simp [intOf] <;> omega)
        · have HW := Lib.hid (show decide (x ∈ ys) = false from decide_eq_false hin)
          have HIN := Lib.hid hin
          obtain ⟨n, hnn⟩ : ∃ n, n = ys.length := ⟨_, rfl⟩
          have HNN := Lib.hid hnn
          have hn6 : n ≤ 1000000 := by have := HYL.out; omega
          clear hnn
          clear hin
          go_wp2_with (first
            | go_big_skip
            | (go_at_call 82; refine (within_any _ ys x false (by have := HYL.out; omega) M.list HW.out).mono ?_; rintro e w' ⟨rfl, rfl⟩)
            | (refine own_lit1 30 x O rfl rfl rfl rfl ?_; clear O c1; intro W gl O K1 hg; replace M := M.keeps K1 (by simp); clear K1 hg; simp only [Act.put, List.setIfInBounds_toArray, List.set_cons_zero, List.set_cons_succ])
            | (at_builtin; (refine own_app w.heap.size _ ys x gl (.tmp 25) (.tmp 30) (O.drop_ 1) M rfl rfl rfl rfl ((O.get 0 rfl).cell 0) rfl (by simp) (by have := HYL.out; omega) ?_; clear O M; intro v1 W O M; simp only [List.drop] at O; obtain ⟨ad, c, hv1⟩ := mint_shape (n := n) M (by simp; exact HNN.out.symm); subst hv1; simp only [Act.put, List.setIfInBounds_toArray, List.set_cons_zero, List.set_cons_succ])))
          clear e1 hx0
          rw [← insAt_end, ← HNN.out] at M
          go_loopw [5] (fun i wr => ∃ p : Nat, p ≤ n ∧ i = .int .i64 p ∧ Own w wr [] [] ∧ Mint w.heap.size wr (.slice (some ad) (n + 1) c) (insAt ys x p) ∧ Hi ys x p) (fun i _ => (intOf i).toNat)
          case atStart => exact ⟨n, Nat.le_refl _, by go_num, O, M, hi_end ys x HNN.out⟩
          case round =>
            obtain ⟨p, hp, rfl, O, M, hH⟩ := hrel
            have HH := Lib.hid hH
            clear hH
            rcases Nat.eq_zero_or_pos p with h0 | h0
            · subst h0
              have HNX := Lib.hid (show Rose (insAt ys x 0) (xs.take (k + 1)) by rw [HT.out]; exact HR.out.put HX0.out HIN.out (Nat.zero_le _) HH.out (.inl rfl))
              have e9 : ((0 : Nat) : Int) = 0 := rfl
              go_wp2
              refine wp_quiet_later (by kernel_rfl) (by kernel_rfl) ?_
              repeat (first
                | go_big_quiet_skip
                | go_big_quiet_step (fail))
              refine wpQuiet_nil ?_
              intro _ hw
              obtain ⟨p', rfl⟩ := hw
              replace O := O.keeps p'.2
              replace M := M.keeps p'.2 (by simp)
              clear e9
              generalize p'.1 = W at O M ⊢
              go_wp2
              go_roundw
              case rel => exact ⟨k + 1, _, by omega, by go_num, O, M, HNX.out⟩
              case measure => (simp [intOf] <;> omega)
            · obtain ⟨q, hq⟩ : ∃ q, p = q + 1 := ⟨p - 1, by omega⟩
              have HQ := Lib.hid hq
              have HLI := Lib.hid (insAt_length ys x p (by have := HNN.out; omega))
              have HVp := Lib.hid (insAt_here ys x p (by have := HNN.out; omega))
              have HVq := Lib.hid (insAt_ahead ys x p q (by omega) (by have := HNN.out; omega))
              have g1 : (0 : Int) < p := by omega
              have g2 : (p : Int) < ((n + 1 : Nat) : Int) := by omega
              have g3 : (q : Int) < ((n + 1 : Nat) : Int) := by omega
              have g4 : (0 : Int) ≤ q := by omega
              have g12 : (p : Int) < (n : Int) + 1 := by omega
              have g13 : (q : Int) < (n : Int) + 1 := by omega
              have g5 : (0 : Int) ≤ p := by omega
              have g6 : decide (0 < p) = true := decide_eq_true (by omega)
              have r1 : IntKind.i64.wrap ((p : Int) - 1) = (q : Int) := by
                rw [show (p : Int) - 1 = (q : Int) by omega]
                exact IntWalk.i64_in _ (by have := HYL.out; have := HNN.out; omega)
              have cp : ∀ z : Later wr, z.1.cell? (ad.add p) = some (.int .i64 x) := fun z => by
                rw [own_cellM (M.keeps z.2 (by simp)) rfl (j := p) (by rw [HLI.out]; have := HNN.out; omega), HVp.out]
              have cq : ∀ z : Later wr, z.1.cell? (ad.add q) = some (.int .i64 (ys.getD q 0)) := fun z => by
                rw [own_cellM (M.keeps z.2 (by simp)) rfl (j := q) (by rw [HLI.out]; have := HNN.out; omega), HVq.out]
              obtain ⟨y, hy⟩ : ∃ y, y = ys.getD q 0 := ⟨_, rfl⟩
              rw [← hy] at cq
              have HY := Lib.hid hy
              have hpn : p ≤ 1000001 := by have := HYL.out; have := HNN.out; omega
              clear hq hy h0
              by_cases hxy : x < y
              · have g7 : decide (x < y) = true := decide_eq_true hxy
                have HXY := Lib.hid hxy
                clear hxy
                go_wp2
                refine wp_quiet_later (by kernel_rfl) (by kernel_rfl) ?_
                repeat (first
                  | go_big_quiet_skip
                  | go_big_quiet_step (fail))
                refine wpQuiet_nil ?_
                intro _ hw
                obtain ⟨p', rfl⟩ := hw
                replace O := O.keeps p'.2
                replace M := M.keeps p'.2 (by simp)
                clear cp cq
                generalize p'.1 = W at O M ⊢
                go_wp2
                refine wp_held (S := fun _ => True) 18 #[false, false, false, false, false, false, false, false, false, false, false, false, false, false, false, false, false, false] (by kernel_rfl) rfl rfl ?_
                replace O := O.drew
                replace M := M.keeps (Keeps.refl _ []).drew (by simp)
                refine seg_take (fuel := 6) (L' := #[true, true, true, true, true, true, true, true, true, false, true, true, true, false, false, false, false, false]) (by kernel_rfl) (fun _ _ _ _ _ _ h => h) True.intro [0, 1, 2, 3, 4, 5, 6, 7, 8, 10, 11, 12] [_, _, _, _, _, _, _, _, _, _, _, _] _ _ rfl (by kernel_rfl) ?_
                simp only [List.getElem_toArray, List.getElem_cons_zero, List.getElem_cons_succ]
                repeat (first
                  | (refine take_pure (v := ?_) (by rfl) ?_ ?_; rotate_left; (· (intro w hSw; clear hSw; go_simp; try with_reducible rfl)); simp only [Act.put, List.setIfInBounds_toArray, List.set_cons_zero, List.set_cons_succ]))
                refine take_done ?_
                have cp : W.drew.cell? (ad.add p) = some (.int .i64 x) := by rw [own_cellM M rfl (j := p) (by rw [HLI.out]; have := HNN.out; omega), HVp.out]
                have cq : W.drew.cell? (ad.add q) = some (.int .i64 y) := by rw [own_cellM M rfl (j := q) (by rw [HLI.out]; have := HNN.out; omega), HVq.out, HY.out]
                refine seg_two 9 13 #[true, true, true, true, true, true, true, true, true, true, true, true, true, false, false, false, false, false] #[true, true, true, true, true, true, true, true, true, false, true, true, true, true, false, false, false, false] rfl rfl (by kernel_rfl) ?_ ?_
                · try simp only [List.getElem_toArray, List.getElem_cons_zero, List.getElem_cons_succ]
                  go_wp2
                  (first | refine back_intro2 True.intro ?_ | refine back_intro True.intro ?_)
                  refine seg_sole 13 #[true, true, true, true, true, true, true, true, true, true, true, true, true, true, false, false, false, false] rfl (by kernel_rfl) ?_
                  try simp only [List.getElem_toArray, List.getElem_cons_zero, List.getElem_cons_succ]
                  go_wp2
                  (first | refine back_intro2 True.intro ?_ | refine back_intro True.intro ?_)
                  clear cp cq
                  refine seg_sole 14 #[true, true, true, true, true, true, true, true, true, true, true, true, true, true, true, false, false, false] rfl (by kernel_rfl) ?_
                  try simp only [List.getElem_toArray, List.getElem_cons_zero, List.getElem_cons_succ]
                  go_wp2
                  (first | refine back_intro2 True.intro ?_ | refine back_intro True.intro ?_)
                  refine seg_sole 15 #[true, true, true, true, true, true, true, true, true, true, true, true, true, true, true, true, false, false] rfl (by kernel_rfl) ?_
                  try simp only [List.getElem_toArray, List.getElem_cons_zero, List.getElem_cons_succ]
                  go_wp2_with (refine mint_store p y ad (n + 1) c (.tmp 65) (.tmp 60) O M rfl (by rw [HLI.out]; have := HNN.out; omega) rfl rfl rfl rfl rfl rfl (by simp) ?_; clear O M; intro W O M)
                  (first | refine back_intro2 True.intro ?_ | refine back_intro True.intro ?_)
                  refine seg_sole 16 #[true, true, true, true, true, true, true, true, true, true, true, true, true, true, true, true, true, false] rfl (by kernel_rfl) ?_
                  try simp only [List.getElem_toArray, List.getElem_cons_zero, List.getElem_cons_succ]
                  go_wp2
                  (first | refine back_intro2 True.intro ?_ | refine back_intro True.intro ?_)
                  refine seg_sole 17 #[true, true, true, true, true, true, true, true, true, true, true, true, true, true, true, true, true, true] rfl (by kernel_rfl) ?_
                  try simp only [List.getElem_toArray, List.getElem_cons_zero, List.getElem_cons_succ]
                  go_wp2_with (refine mint_store q x ad (n + 1) c (.tmp 66) (.tmp 64) O M rfl (by rw [List.length_set, HLI.out]; have := HNN.out; have := HQ.out; omega) rfl rfl rfl rfl rfl rfl (by simp) ?_; clear O M; intro W O M)
                  (first | refine back_intro2 True.intro ?_ | refine back_intro True.intro ?_)
                  refine seg_done (by kernel_rfl) ?_
                  go_wp2
                  clear g6 g7
                  go_roundw
                  case rel => exact ⟨q, by have := HQ.out; omega, rfl, O, by have := insAt_swap ys x q (by have := HNN.out; have := HQ.out; omega); rw [← HQ.out, ← HY.out] at this; rw [← this]; exact M, hi_step (by have := HH.out; rwa [HQ.out] at this) (by rw [← HY.out]; exact HXY.out)⟩
                  case measure => (simp [intOf]; have := HQ.out; omega)
                · try simp only [List.getElem_toArray, List.getElem_cons_zero, List.getElem_cons_succ]
                  go_wp2
                  (first | refine back_intro2 True.intro ?_ | refine back_intro True.intro ?_)
                  refine seg_sole 9 #[true, true, true, true, true, true, true, true, true, true, true, true, true, true, false, false, false, false] rfl (by kernel_rfl) ?_
                  try simp only [List.getElem_toArray, List.getElem_cons_zero, List.getElem_cons_succ]
                  go_wp2
                  (first | refine back_intro2 True.intro ?_ | refine back_intro True.intro ?_)
                  clear cp cq
                  refine seg_sole 14 #[true, true, true, true, true, true, true, true, true, true, true, true, true, true, true, false, false, false] rfl (by kernel_rfl) ?_
                  try simp only [List.getElem_toArray, List.getElem_cons_zero, List.getElem_cons_succ]
                  go_wp2
                  (first | refine back_intro2 True.intro ?_ | refine back_intro True.intro ?_)
                  refine seg_sole 15 #[true, true, true, true, true, true, true, true, true, true, true, true, true, true, true, true, false, false] rfl (by kernel_rfl) ?_
                  try simp only [List.getElem_toArray, List.getElem_cons_zero, List.getElem_cons_succ]
                  go_wp2_with (refine mint_store p y ad (n + 1) c (.tmp 65) (.tmp 60) O M rfl (by rw [HLI.out]; have := HNN.out; omega) rfl rfl rfl rfl rfl rfl (by simp) ?_; clear O M; intro W O M)
                  (first | refine back_intro2 True.intro ?_ | refine back_intro True.intro ?_)
                  refine seg_sole 16 #[true, true, true, true, true, true, true, true, true, true, true, true, true, true, true, true, true, false] rfl (by kernel_rfl) ?_
                  try simp only [List.getElem_toArray, List.getElem_cons_zero, List.getElem_cons_succ]
                  go_wp2
                  (first | refine back_intro2 True.intro ?_ | refine back_intro True.intro ?_)
                  refine seg_sole 17 #[true, true, true, true, true, true, true, true, true, true, true, true, true, true, true, true, true, true] rfl (by kernel_rfl) ?_
                  try simp only [List.getElem_toArray, List.getElem_cons_zero, List.getElem_cons_succ]
                  go_wp2_with (refine mint_store q x ad (n + 1) c (.tmp 66) (.tmp 64) O M rfl (by rw [List.length_set, HLI.out]; have := HNN.out; have := HQ.out; omega) rfl rfl rfl rfl rfl rfl (by simp) ?_; clear O M; intro W O M)
                  (first | refine back_intro2 True.intro ?_ | refine back_intro True.intro ?_)
                  refine seg_done (by kernel_rfl) ?_
                  go_wp2
                  clear g6 g7
                  go_roundw
                  case rel => exact ⟨q, by have := HQ.out; omega, rfl, O, by have := insAt_swap ys x q (by have := HNN.out; have := HQ.out; omega); rw [← HQ.out, ← HY.out] at this; rw [← this]; exact M, hi_step (by have := HH.out; rwa [HQ.out] at this) (by rw [← HY.out]; exact HXY.out)⟩
                  case measure => (simp [intOf]; have := HQ.out; omega)
              · have g7 : decide (x < y) = false := decide_eq_false hxy
                have HNX := Lib.hid (show Rose (insAt ys x p) (xs.take (k + 1)) by
                  rw [HT.out]
                  exact HR.out.put HX0.out HIN.out (by have := HNN.out; omega) HH.out (.inr (by rw [show p - 1 = q by have := HQ.out; omega, ← HY.out]; exact hxy)))
                clear hxy
                go_wp2
                refine wp_quiet_later (by kernel_rfl) (by kernel_rfl) ?_
                repeat (first
                  | go_big_quiet_skip
                  | go_big_quiet_step (fail))
                refine wpQuiet_nil ?_
                intro _ hw
                obtain ⟨p', rfl⟩ := hw
                replace O := O.keeps p'.2
                replace M := M.keeps p'.2 (by simp)
                clear cp cq
                generalize p'.1 = W at O M ⊢
                go_wp2
                clear g6 g7 r1
                go_roundw
                case rel => exact ⟨k + 1, _, by omega, by go_num, O, M, HNX.out⟩
                case measure => (simp [intOf] <;> omega)
    · obtain rfl : k = m := by omega
      go_wp2
      go_ret
      exact ⟨⟨_, _, rfl, M, by have := HR.out; rwa [List.take_of_length_le (by rw [HL.out]; exact Nat.le_refl _)] at this⟩, O.keep⟩
end
end Go.Proofs.Ytakmcpadkanggaa

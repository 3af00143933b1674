/-
  Rows of integers that a call has made; alikes; who holds a lock (quernref14.holder).
-/
import Derived.Test.YtakmcpadkanggaaLite2
import Derived.Test.YtakmcpadkanggaaT13
namespace Go.Proofs.Ytakmcpadkanggaa
open Go.RowKit Go.Maps Go.Deep

section
variable {w : World} {n : Nat} {E : Nat → Ev} {B : Option Addr} {cb : Nat}
set_option maxRecDepth 100000 in
theorem alikes_same (v v' : Value) (xs : List Int) (hn : xs.length ≤ 1000000) (h : IntL w v xs) (h' : IntL w v' xs) : Calls Try.prog 34 #[v, v'] w fun e w' => e = .returned (.bool true) ∧ Keeps w w' [] := by
  obtain ⟨A, c, rfl, hx⟩ := h
  obtain ⟨A', c', rfl, hx'⟩ := h'
  generalize hl : xs.length = m at *
  have HX := Lib.hid hx
  have HX' := Lib.hid hx'
  clear hx hx' hl
  go_enter Try.func34, Try.ntmps34
  go_wp2
  go_loopw [5] (fun i wr => ∃ k : Nat, k ≤ m ∧ i = .int .i64 k ∧ Keeps w wr []) (fun i _ => m - (intOf i).toNat)
  case atStart => exact ⟨0, by omega, rfl, Keeps.refl _ _⟩
  case round =>
    obtain ⟨k, hk, rfl, K⟩ := hrel
    by_cases hlt : k < m
    · have g1 : ((k : Int)) < m := by omega
      have g0 : (0 : Int) ≤ k := by omega
      obtain ⟨ad, rfl, hb, hc⟩ := HX.out (by omega)
      obtain ⟨ad', rfl, hb', hc'⟩ := HX'.out (by omega)
      have c1 : ∀ p : Later wr, p.1.cell? (ad.add k) = some (.int .i64 (xs.getD k 0)) := fun p => ((K.trans p.2 (by simp)).cellAt (by rw [add_block]; exact hb) (by simp)).trans (hc k hlt)
      have c2 : ∀ p : Later wr, p.1.cell? (ad'.add k) = some (.int .i64 (xs.getD k 0)) := fun p => ((K.trans p.2 (by simp)).cellAt (by rw [add_block]; exact hb') (by simp)).trans (hc' k hlt)
      clear hc hc' hb hb'
      generalize xs.getD k 0 = x at c1 c2
      have e1 : (x != x) = false := by simp
      go_wp2
      refine wp_quiet_later (by kernel_rfl) (by kernel_rfl) ?_
      repeat (first
        | go_big_quiet_skip
        | go_big_quiet_step (fail))
      refine wpQuiet_nil ?_
      intro _ hw
      obtain ⟨p', rfl⟩ := hw
      replace K := K.trans p'.2 (by simp)
      clear c1 c2 e1
      generalize p'.1 = W at K ⊢
      go_wp2
      go_roundw
      case rel => exact ⟨k + 1, by omega, by go_num, K⟩
      case measure => (simp [intOf] <;> omega)
    · obtain rfl : k = m := by omega
      go_wp2
      go_ret
      exact ⟨rfl, K⟩

/-- Who holds lock k behind j events; -1: nobody. -/
def refW (E : Nat → Ev) (k : Int) : Nat → Int
  | 0 => -1
  | j + 1 => if (E j).op = 9 ∧ (E j).a = k then -1 else if (E j).op = 8 ∧ (E j).a = k then (E j).who else refW E k j
set_option maxRecDepth 100000 in
set_option maxHeartbeats 1000000 in
theorem refholder_any (hE : EvsAt w B n E) (hn : n ≤ 40000) (i : Nat) (hi : i ≤ n) (q : Int) : Calls Try.prog 68 #[.slice B n cb, .int .i64 (i : Int), .int .i64 q] w fun e w' => e = .returned (.int .i64 (refW E q i)) ∧ Keeps w w' [] := by
  have HE := Lib.hid hE
  clear hE
  go_enter Try.func68, Try.ntmps68
  go_wp2
  go_loopw [8, 7] (fun j x wr => ∃ k : Nat, k ≤ i ∧ j = .int .i64 k ∧ x = .int .i64 (refW E q k) ∧ Keeps w wr []) (fun j _ _ => i - (intOf j).toNat)
  case atStart => exact ⟨0, by omega, rfl, rfl, Keeps.refl _ _⟩
  case round =>
    obtain ⟨k, hk, rfl, rfl, K⟩ := hrel
    by_cases hlt : k < i
    · have g1 : ((k : Int)) < i := by omega
      have g2 : ((k : Int)) < n := by omega
      have g0 : (0 : Int) ≤ k := by omega
      obtain ⟨ad, rfl, hc⟩ := EvsAt.row (u := w) HE.out (show k < n by omega)
      have c0 : wr.cell? (ad.add (k * 5)) = some (.int .i64 (E k).who) := hc [] wr K (by simp) 0 (by show 0 < 5; omega)
      have c1 : wr.cell? ⟨(ad.add (k * 5)).block, (ad.add (k * 5)).off + 1, none⟩ = some (.int .i64 (E k).op) := hc [] wr K (by simp) 1 (by show 1 < 5; omega)
      have c2 : wr.cell? ⟨(ad.add (k * 5)).block, (ad.add (k * 5)).off + 2, none⟩ = some (.int .i64 (E k).a) := hc [] wr K (by simp) 2 (by show 2 < 5; omega)
      clear hc
      have HW := Lib.hid (show refW E q (k + 1) = if (E k).op = 9 ∧ (E k).a = q then -1 else if (E k).op = 8 ∧ (E k).a = q then (E k).who else refW E q k from rfl)
      generalize E k = e at c0 c1 c2 HW
      obtain ⟨who, op, a, v, sh⟩ := e
      simp only at c0 c1 c2
      by_cases o9 : op = 9
      · subst o9
        by_cases ha : a = q
        · rw [ha] at c2 HW
          have HN := Lib.hid (show refW E q (k + 1) = (-1) by rw [HW.out]; simp)
          go_wp2_with (first | go_big_skip)
          clear c0 c1 c2
          go_roundw
          case rel => exact ⟨k + 1, by omega, by go_num, by rw [HN.out], K⟩
          case measure => (simp [intOf] <;> omega)
        · have ea : (a == q) = false := by simpa using ha
          have HN := Lib.hid (show refW E q (k + 1) = refW E q k by rw [HW.out]; simp [ha])
          go_wp2_with (first | go_big_skip)
          clear c0 c1 c2
          go_roundw
          case rel => exact ⟨k + 1, by omega, by go_num, by rw [HN.out], K⟩
          case measure => (simp [intOf] <;> omega)
      by_cases o8 : op = 8
      · subst o8
        by_cases ha : a = q
        · rw [ha] at c2 HW
          have HN := Lib.hid (show refW E q (k + 1) = who by rw [HW.out]; simp)
          go_wp2_with (first | go_big_skip)
          clear c0 c1 c2
          go_roundw
          case rel => exact ⟨k + 1, by omega, by go_num, by rw [HN.out], K⟩
          case measure => (simp [intOf] <;> omega)
        · have ea : (a == q) = false := by simpa using ha
          have HN := Lib.hid (show refW E q (k + 1) = refW E q k by rw [HW.out]; simp [ha])
          go_wp2_with (first | go_big_skip)
          clear c0 c1 c2
          go_roundw
          case rel => exact ⟨k + 1, by omega, by go_num, by rw [HN.out], K⟩
          case measure => (simp [intOf] <;> omega)
      have e8 : (op == 8) = false := by simpa using o8
      have e9 : (op == 9) = false := by simpa using o9
      have HN := Lib.hid (show refW E q (k + 1) = refW E q k by rw [HW.out]; simp [o8, o9])
      go_wp2_with (first | go_big_skip)
      clear c0 c1 c2
      go_roundw
      case rel => exact ⟨k + 1, by omega, by go_num, by rw [HN.out], K⟩
      case measure => (simp [intOf] <;> omega)
    · obtain rfl : k = i := by omega
      go_wp2
      go_ret
      exact ⟨rfl, K⟩
end
end Go.Proofs.Ytakmcpadkanggaa

import Derived.Test.YtainpnjddhabfaaW1
namespace Go.Proofs.Ytainpnjddhabfaa
open Go.RowKit

def digitN (c : Nat) : Int := if 48 ≤ c ∧ c ≤ 57 then (c : Int) - 48 else if 97 ≤ c ∧ c ≤ 102 then (c : Int) - 97 + 10 else if 65 ≤ c ∧ c ≤ 70 then (c : Int) - 65 + 10 else -1

theorem digit_any (c : Nat) (hc : c < 256) (w : World) : Calls Try.prog 34 #[.int .u8 c] w fun e w' => e = .returned (.int .i64 (digitN c)) ∧ w = w' := by
  by_cases h1 : 48 ≤ c ∧ c ≤ 57
  · obtain ⟨a, b⟩ := h1
    have H := Lib.hid (show digitN c = (c : Int) - 48 by unfold digitN; rw [if_pos ⟨a, b⟩])
    go_enter Try.func34, Try.ntmps34
    go_wp2
    go_ret
    exact ⟨by rw [H.out]; rfl, rfl⟩
  · by_cases h2 : 97 ≤ c ∧ c ≤ 102
    · obtain ⟨a, b⟩ := h2
      have H := Lib.hid (show digitN c = (c : Int) - 97 + 10 by unfold digitN; rw [if_neg h1, if_pos ⟨a, b⟩])
      go_enter Try.func34, Try.ntmps34
      go_wp2
      go_ret
      exact ⟨by rw [H.out]; rfl, rfl⟩
    · by_cases h3 : 65 ≤ c ∧ c ≤ 70
      · obtain ⟨a, b⟩ := h3
        have H := Lib.hid (show digitN c = (c : Int) - 65 + 10 by unfold digitN; rw [if_neg h1, if_neg h2, if_pos ⟨a, b⟩])
        go_enter Try.func34, Try.ntmps34
        go_wp2
        go_ret
        exact ⟨by rw [H.out]; rfl, rfl⟩
      · have H := Lib.hid (show digitN c = -1 by unfold digitN; rw [if_neg h1, if_neg h2, if_neg h3])
        go_enter Try.func34, Try.ntmps34
        go_wp2
        all_goals (go_ret; exact ⟨by rw [H.out]; rfl, rfl⟩)

def rowsB : ByteArray := ⟨#[48, 49, 50, 51, 52, 53, 54, 55, 56, 57, 97, 98, 99, 100, 101, 102, 101, 97, 52, 56, 57, 102, 100, 54, 49, 99, 48, 50, 98, 55, 53, 51, 98, 56, 99, 48, 53, 50, 102, 100, 97, 101, 51, 54, 55, 49, 57, 52, 55, 57, 51, 49, 100, 99, 98, 101, 50, 54, 53, 97, 52, 48, 102, 56, 57, 48, 53, 55, 50, 52, 97, 102, 101, 49, 98, 99, 54, 56, 51, 100, 50, 99, 54, 97, 48, 98, 56, 51, 52, 100, 55, 53, 102, 101, 49, 57, 99, 53, 49, 102, 101, 100, 52, 97, 48, 55, 54, 51, 57, 50, 56, 98, 100, 98, 55, 101, 99, 49, 51, 57, 53, 48, 102, 52, 56, 54, 50, 97, 54, 102, 101, 57, 98, 51, 48, 56, 99, 50, 100, 55, 49, 52, 97, 53, 97, 50, 56, 52, 55, 54, 49, 53, 102, 98, 57, 101, 51, 99, 100, 48]⟩
theorem rows_sig (k i : Nat) (hk : k < 10) (hi : i < 16) (h : 16 * k + i < rowsB.size) : digitN (rowsB[16 * k + i].toNat) = (sig k i : Nat) := by
  have key : ∀ (k : Fin 10) (i : Fin 16), digitN ((rowsB.get! (16 * k.1 + i.1)).toNat) = (sig k.1 i.1 : Nat) := by decide +kernel
  have := key ⟨k, hk⟩ ⟨i, hi⟩
  rw [← this]
  have e : rowsB.get! (16 * k + i) = rowsB[16 * k + i] := by
    simp only [ByteArray.get!]
    exact getElem!_pos rowsB.data (16 * k + i) h
  rw [e]

set_option maxRecDepth 100000 in
theorem sigref_any (r : Int) (i : Nat) (hi : i < 16) (w : World) : Calls Try.prog 15 #[.int .i64 r, .int .i64 i] w fun e w' => e = .returned (.int .i64 (sig (row r) i : Nat)) ∧ w = w' := by
  have hk : r % 10 = (row r : Int) := by unfold row; omega
  have hl := row_lt r
  have H := Lib.hid hk
  clear hk
  generalize row r = k at *
  go_enter Try.func15, Try.ntmps15
  go_wp2_with (go_at_call 35; refine (rest_any _ _ (by omega) _).mono ?_; rintro e w' ⟨he, rfl⟩; rw [H.out] at he; subst he)
  refine (digit_any _ (UInt8.toNat_lt _) _).mono ?_
  rintro e w' ⟨rfl, rfl⟩
  go_wp2
  go_ret
  exact ⟨congrArg (fun n => Ending.returned (.int .i64 n)) (rows_sig k i hl hi (by show _ < 160; omega)), rfl⟩
end Go.Proofs.Ytainpnjddhabfaa

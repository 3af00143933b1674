/-
  load and store of both texts.
-/
import Derived.Test.YtainpnjddhabfaaY1
import Derived.Test.YtainpnjddhabfaaT1
namespace Go.Proofs.Ytainpnjddhabfaa
open Go.RowKit

theorem U64_zero : Value.int .u64 0 = U64 0 := rfl

set_option maxHeartbeats 1000000 in
theorem load_any (ad : Addr) (n c off : Nat) (f : Nat → BitVec 8) (w : World) (hB : ad.block < w.heap.size) (hc : ∀ j, j < n → w.cell? (ad.add j) = some (U8 (f j))) (ho : off + 8 ≤ n) (hn : n ≤ maxLen) :
    Calls Try.prog 50 #[.slice (some ad) n c, .int .i64 off, .int .i64 8] w fun e w' => e = .returned (.tuple #[U64 (le64 fun j => f (off + j)), .int .i64 0]) ∧ w = w' := by
  have hn' : n ≤ 9223372036854775807 := hn
  have h0 : ¬ ((off : Int) < 0) := by omega
  have h1 : ¬ ((n : Int) < off) := by omega
  have h2 : IntKind.i64.wrap ((n : Int) - off) = n - off := IntWalk.i64_in _ (by omega)
  have h3 : ¬ ((n : Int) - off < 8) := by omega
  have HW := Lib.hid h2
  clear h2
  generalize hg : (fun j => f (off + j)) = g at *
  have hgv : ∀ j, f (off + j) = g j := fun j => by rw [← hg]
  have HG := Lib.hid hgv
  clear hg hgv
  go_enter Try.func50, Try.ntmps50
  have h2 := HW.out
  go_wp2
  clear h2
  go_loopw [25, 8] (fun i v wr => ∃ k : Nat, k ≤ 8 ∧ i = .int .i64 k ∧ v = U64 (orK g k) ∧ w = wr) (fun i _ _ => 8 - (intOf i).toNat)
  case atStart => exact ⟨0, by omega, rfl, rfl, rfl⟩
  case round =>
    obtain ⟨k, hk, rfl, rfl, rfl⟩ := hrel
    by_cases hlt : k < 8
    · have g1 : ((k : Int)) < 8 := by omega
      have m1 : IntKind.i64.wrap ((off : Int) + k) = off + k := IntWalk.i64_in _ (by omega)
      have m2 : ((off : Int) + k).toNat = off + k := by omega
      have m3 : IntKind.i64.wrap (8 * (k : Int)) = 8 * k := IntWalk.i64_in _ (by omega)
      have m4 : (8 * (k : Int)).toNat = 8 * k := by omega
      have m5 : (0 : Int) ≤ off + k := by omega
      have m6 : (off : Int) + k < n := by omega
      have m7 : (0 : Int) ≤ 8 * k := by omega
      have cc : w.cell? (ad.add (off + k)) = some (U8 (g k)) := by rw [hc (off + k) (by omega), HG.out]
      go_wp2
      clear m1 m2 m3 m4 cc
      go_roundw
      case rel => exact ⟨k + 1, by omega, by go_num, rfl, by trivial⟩
      case measure => (simp [intOf] <;> omega)
    · obtain rfl : k = 8 := by omega
      go_wp2
      go_ret2
      exact ⟨rfl, rfl⟩

theorem load64_any (ad : Addr) (n c off : Nat) (f : Nat → BitVec 8) (w : World) (hB : ad.block < w.heap.size) (hc : ∀ j, j < n → w.cell? (ad.add j) = some (U8 (f j))) (ho : off + 8 ≤ n) (hn : n ≤ maxLen) :
    Calls Try.prog 40 #[.slice (some ad) n c, .int .i64 off] w fun e w' => e = .returned (.tuple #[U64 (le64 fun j => f (off + j)), .int .i64 0]) ∧ w = w' := by
  go_enter Try.func40, Try.ntmps40
  go_wp2_with (go_at_call 50; refine (load_any ad n c off f w hB hc ho hn).mono ?_; rintro e W ⟨rfl, rfl⟩)
  go_ret2
  exact ⟨rfl, rfl⟩

set_option maxHeartbeats 1000000 in
theorem refload_any (ad : Addr) (n c off : Nat) (f : Nat → BitVec 8) (w : World) (hB : ad.block < w.heap.size) (hc : ∀ j, j < n → w.cell? (ad.add j) = some (U8 (f j))) (ho : off + 8 ≤ n) (hn : n ≤ maxLen) :
    Calls Try.prog 41 #[.slice (some ad) n c, .int .i64 off, .int .i64 8] w fun e w' => e = .returned (.tuple #[U64 (le64 fun j => f (off + j)), .int .i64 0]) ∧ w = w' := by
  have hn' : n ≤ 9223372036854775807 := hn
  have h0 : ¬ ((off : Int) < 0) := by omega
  have h1 : ¬ ((n : Int) < off) := by omega
  have h2 : IntKind.i64.wrap ((n : Int) - off) = n - off := IntWalk.i64_in _ (by omega)
  have h3 : ¬ ((n : Int) - off < 8) := by omega
  have HW := Lib.hid h2
  clear h2
  rw [← hoK_le64]
  generalize hg : (fun j => f (off + j)) = g at *
  have hgv : ∀ j, f (off + j) = g j := fun j => by rw [← hg]
  have HG := Lib.hid hgv
  clear hg hgv
  go_enter Try.func41, Try.ntmps41
  have h2 := HW.out
  go_wp2
  clear h2
  go_loopw [9, 8] (fun i v wr => ∃ k : Nat, k ≤ 8 ∧ i = .int .i64 (7 - (k : Int)) ∧ v = U64 (hoK g 8 k) ∧ w = wr) (fun i _ _ => (intOf i + 1).toNat)
  case atStart => exact ⟨0, by omega, rfl, rfl, rfl⟩
  case round =>
    obtain ⟨k, hk, rfl, rfl, rfl⟩ := hrel
    by_cases hlt : k < 8
    · have g1 : (0 : Int) ≤ 7 - k := by omega
      have m1 : IntKind.i64.wrap ((off : Int) + (7 - k)) = off + (7 - k) := IntWalk.i64_in _ (by omega)
      have m2 : ((off : Int) + (7 - k)).toNat = off + (7 - k) := by omega
      have m5 : (0 : Int) ≤ off + (7 - k) := by omega
      have m6 : (off : Int) + (7 - k) < n := by omega
      have cc : w.cell? (ad.add (off + (7 - k))) = some (U8 (g (8 - 1 - k))) := by rw [hc (off + (7 - k)) (by omega), HG.out]
      go_wp2
      clear m1 m2 cc
      go_roundw
      case rel => exact ⟨k + 1, by omega, by go_num, rfl, by trivial⟩
      case measure => (simp [intOf] <;> omega)
    · obtain rfl : k = 8 := by omega
      go_wp2
      go_ret2
      exact ⟨rfl, rfl⟩
end Go.Proofs.Ytainpnjddhabfaa

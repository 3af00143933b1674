/-
  A round of mixb, in place.
-/
import Derived.Test.YtainpnjddhabfaaW10
namespace Go.Proofs.Ytainpnjddhabfaa
open Go.RowKit

/-- The state behind k steps of a round of order q. -/
def rndK (M : Nat → BitVec 64) (q : Nat) (V : Nat → BitVec 64) : Nat → Nat → BitVec 64
  | 0 => V
  | k + 1 => stepB (rndK M q V k) (pl k 0) (pl k 1) (pl k 2) (pl k 3) (M (sig q (2 * k))) (M (sig q (2 * k + 1)))
def roundB (V M : Nat → BitVec 64) (q : Nat) : Nat → BitVec 64 := rndK M q V 8

theorem pl_lt (k j : Nat) (hk : k < 8) (hj : j < 4) : pl k j < 16 := by
  have h : ∀ k : Fin 8, ∀ j : Fin 4, pl k.1 j.1 < 16 := by decide +kernel
  exact h ⟨k, hk⟩ ⟨j, hj⟩
theorem sig_lt (q j : Nat) (hq : q < 10) (hj : j < 16) : sig q j < 16 := by
  have h : ∀ q : Fin 10, ∀ p : Fin 16, sig q.1 p.1 < 16 := by decide +kernel
  exact h ⟨q, hq⟩ ⟨j, hj⟩
theorem pl_index (k : Nat) (hk : k < 8) (w : World) : (Instr.index 80 (.agg (ints 32 fun i => pl (i / 4) (i % 4))) (.int .i64 (k : Int))).run Try.prog w = .ok (.agg (ints 4 (pl k))) w := by
  have i0 : ∀ w, (Instr.index 80 (.agg (ints 32 fun i => pl (i / 4) (i % 4))) (.int .i64 ((0 : Nat) : Int))).run Try.prog w = .ok (.agg (ints 4 (pl 0))) w := fun _ => by kernel_rfl
  have i1 : ∀ w, (Instr.index 80 (.agg (ints 32 fun i => pl (i / 4) (i % 4))) (.int .i64 ((1 : Nat) : Int))).run Try.prog w = .ok (.agg (ints 4 (pl 1))) w := fun _ => by kernel_rfl
  have i2 : ∀ w, (Instr.index 80 (.agg (ints 32 fun i => pl (i / 4) (i % 4))) (.int .i64 ((2 : Nat) : Int))).run Try.prog w = .ok (.agg (ints 4 (pl 2))) w := fun _ => by kernel_rfl
  have i3 : ∀ w, (Instr.index 80 (.agg (ints 32 fun i => pl (i / 4) (i % 4))) (.int .i64 ((3 : Nat) : Int))).run Try.prog w = .ok (.agg (ints 4 (pl 3))) w := fun _ => by kernel_rfl
  have i4 : ∀ w, (Instr.index 80 (.agg (ints 32 fun i => pl (i / 4) (i % 4))) (.int .i64 ((4 : Nat) : Int))).run Try.prog w = .ok (.agg (ints 4 (pl 4))) w := fun _ => by kernel_rfl
  have i5 : ∀ w, (Instr.index 80 (.agg (ints 32 fun i => pl (i / 4) (i % 4))) (.int .i64 ((5 : Nat) : Int))).run Try.prog w = .ok (.agg (ints 4 (pl 5))) w := fun _ => by kernel_rfl
  have i6 : ∀ w, (Instr.index 80 (.agg (ints 32 fun i => pl (i / 4) (i % 4))) (.int .i64 ((6 : Nat) : Int))).run Try.prog w = .ok (.agg (ints 4 (pl 6))) w := fun _ => by kernel_rfl
  have i7 : ∀ w, (Instr.index 80 (.agg (ints 32 fun i => pl (i / 4) (i % 4))) (.int .i64 ((7 : Nat) : Int))).run Try.prog w = .ok (.agg (ints 4 (pl 7))) w := fun _ => by kernel_rfl
  match k, hk with
  | 0, _ => exact i0 w
  | 1, _ => exact i1 w
  | 2, _ => exact i2 w
  | 3, _ => exact i3 w
  | 4, _ => exact i4 w
  | 5, _ => exact i5 w
  | 6, _ => exact i6 w
  | 7, _ => exact i7 w

set_option maxHeartbeats 1000000 in
theorem turn_rnd {t t' : TypeId} (V M : Nat → BitVec 64) (B C : Nat) (r : Int) (w : World) (hB : Blk w B t (words 16 V)) (hC : Blk w C t' (words 16 M)) (hne : C ≠ B) :
    Calls Try.prog 44 #[.pointer (some ⟨B, 0, none⟩), .pointer (some ⟨C, 0, none⟩), .int .i64 r] w fun e w' => e = .returned (.tuple #[]) ∧ Keeps w w' [B] ∧ Blk w' B t (words 16 (roundB V M (row r))) := by
  have O := (Own.start w [B]).have_ hB (by simp) (by simp)
  have hq := row_lt r
  generalize hrow : row r = q at *
  have HQ := Lib.hid hrow
  clear hrow hB
  go_enter Try.func44, Try.ntmps44
  go_wp2_with (first
    | (go_at_call 14; refine (sigma_any _ _).mono ?_; rintro e W ⟨he, K⟩; rw [HQ.out] at he; subst he; replace O := O.keeps K; clear K)
    | (refine own_alloc 6 (ints 16 fun _ => 0) O rfl rfl rfl (fun _ => by kernel_rfl) ?_; clear O; intro W a6 O; simp only [Act.put, List.setIfInBounds_toArray, List.set_cons_zero, List.set_cons_succ])
    | (refine own_store_row 0 (.tmp 6) (.tmp 10) O rfl rfl rfl rfl rfl rfl (by kernel_rfl) (by simp only [ints_size]) (ints_cell _ _) ?_; clear O; intro W O; simp only [List.set_cons_zero, List.set_cons_succ] at O)
    | (go_at_call 45; refine (places_any _).mono ?_; rintro e W ⟨rfl, K⟩; replace O := O.keeps K; clear K))
  go_loopw [12] (fun i wr => ∃ k : Nat, k ≤ 8 ∧ i = .int .i64 k ∧ Own w wr [B] [(a6, 26, ints 16 (sig q)), (B, t, words 16 (rndK M q V k))]) (fun i _ => 8 - (intOf i).toNat)
  case atStart => exact ⟨0, by omega, rfl, O⟩
  case round =>
    obtain ⟨k, hk, rfl, O⟩ := hrel
    by_cases hlt : k < 8
    · have g1 : ((k : Int)) < 8 := by omega
      have s0 := sig_lt q (2 * k) hq (by omega)
      have s1 := sig_lt q (2 * k + 1) hq (by omega)
      have m1 : IntKind.i64.wrap (2 * (k : Int)) = 2 * k := IntWalk.i64_in _ (by omega)
      have m2 : IntKind.i64.wrap (2 * (k : Int) + 1) = 2 * k + 1 := IntWalk.i64_in _ (by omega)
      have m3 : (0 : Int) ≤ 2 * k := by omega
      have m4 : (2 * (k : Int)).toNat = 2 * k := by omega
      have m5 : (2 * (k : Int) + 1).toNat = 2 * k + 1 := by omega
      have m6 : 2 * (k : Int) < 16 := by omega
      have m9 : 2 * k < 16 := by omega
      have m10 : 2 * k + 1 < 16 := by omega
      have m7 : 2 * (k : Int) + 1 < 16 := by omega
      have m8 : (0 : Int) ≤ 2 * k + 1 := by omega
      have HM := Lib.hid (And.intro m1 (And.intro m2 (And.intro m4 m5)))
      clear m1 m2 m4 m5
      have ipl := pl_index k hlt
      go_wp2_with (first
        | (refine wpList_const 15 (.agg (ints 4 (pl k))) rfl rfl ipl ?_; simp only [Act.put, List.setIfInBounds_toArray, List.set_cons_zero, List.set_cons_succ])
        | (refine own_alloc 8 (ints 4 fun _ => 0) O rfl rfl rfl (fun _ => by kernel_rfl) ?_; clear O; intro W a8 O; simp only [Act.put, List.setIfInBounds_toArray, List.set_cons_zero, List.set_cons_succ])
        | (refine own_store_row 0 (.tmp 8) (.tmp 15) O rfl rfl rfl rfl rfl rfl (by kernel_rfl) (by simp only [ints_size]) (ints_cell _ _) ?_; clear O; intro W O; simp only [List.set_cons_zero, List.set_cons_succ] at O))
      clear ipl
      obtain ⟨m1, m2, m4, m5⟩ := HM.out
      have c6 := (O.get 1 rfl).cell
      have cM := (hC.keeps O.keep (by simpa using hne)).cell
      refine wp_quiet_tail_drawn 19 (by kernel_rfl) (by kernel_rfl) ?_
      simp only [List.take, List.drop]
      repeat (first
        | (refine wpQuiet_load 17 rfl rfl rfl rfl (drawn_blk (O.get 0 rfl)) Try.underlying71 rfl (by kernel_rfl) ?_; simp only [Act.put, List.setIfInBounds_toArray, List.set_cons_zero, List.set_cons_succ])
        | go_big_quiet_step (fail))
      refine wpQuiet_nil ?_
      intro _ hw
      obtain ⟨n0, rfl⟩ := hw
      replace O := O.drewN n0
      clear c6 cM m1 m2 m4 m5
      generalize World.drewN _ n0 = W at O ⊢
      go_wp2_with (go_at_call 37; refine (step_ints (pl k) _ _ B _ W (O.get 2 rfl) (fun i hi => pl_lt k i hlt hi)).mono ?_; rintro e W ⟨rfl, K, B1⟩; replace O := (O.set 2 rfl K B1).drop_ 1; clear K B1; simp only [List.set_cons_zero, List.set_cons_succ] at O)
      go_roundw
      case rel => exact ⟨k + 1, by omega, by go_num, O⟩
      case measure => simp [intOf]; omega
    · obtain rfl : k = 8 := by omega
      go_wp2
      go_end0
      exact ⟨rfl, O.keep, O.get 1 rfl⟩
end Go.Proofs.Ytainpnjddhabfaa

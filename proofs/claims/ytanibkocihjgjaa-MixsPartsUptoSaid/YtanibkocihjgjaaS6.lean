/-
  Round and Unround of mixs and of the reference.
-/
import Derived.Test.YtanibkocihjgjaaS3
import Derived.Test.YtanibkocihjgjaaS5
import Derived.Test.YtanibkocihjgjaaTail2
namespace Go.Proofs.Ytanibkocihjgjaa
open Go.RowKit

/-- The state behind k steps of a round of order q; behind k steps back. -/
def rndK (M : Nat → BitVec 32) (q : Nat) (V : Nat → BitVec 32) : Nat → Nat → BitVec 32
  | 0 => V
  | k + 1 => mixV (rndK M q V k) (pl k 0) (pl k 1) (pl k 2) (pl k 3) (M (sig q (2 * k))) (M (sig q (2 * k + 1)))
def roundV (V M : Nat → BitVec 32) (q : Nat) : Nat → BitVec 32 := rndK M q V 8
def bckK (M : Nat → BitVec 32) (q : Nat) (V : Nat → BitVec 32) : Nat → Nat → BitVec 32
  | 0 => V
  | k + 1 => unmV (bckK M q V k) (pl (7 - k) 0) (pl (7 - k) 1) (pl (7 - k) 2) (pl (7 - k) 3) (M (sig q (2 * (7 - k)))) (M (sig q (2 * (7 - k) + 1)))
def backV (V M : Nat → BitVec 32) (q : Nat) : Nat → BitVec 32 := bckK M q V 8
theorem bck_step (M V : Nat → BitVec 32) (q k : Nat) (hk : k < 8) : bckK M q V (8 - k) = unmV (bckK M q V (8 - (k + 1))) (pl k 0) (pl k 1) (pl k 2) (pl k 3) (M (sig q (2 * k))) (M (sig q (2 * k + 1))) := by
  rw [show 8 - k = (8 - (k + 1)) + 1 from by omega]
  show unmV _ _ _ _ _ _ _ = _
  rw [show 7 - (8 - (k + 1)) = k from by omega]
theorem fourB_pl (k : Nat) (hk : k < 8) : fourB (pl k 0 : Nat) (pl k 1 : Nat) (pl k 2 : Nat) (pl k 3 : Nat) = true := by
  have h : ∀ k : Fin 8, fourB (pl k.1 0 : Nat) (pl k.1 1 : Nat) (pl k.1 2 : Nat) (pl k.1 3 : Nat) = true := by decide +kernel
  exact h ⟨k, hk⟩
theorem refg_pl (k : Nat) (hk : k < 8) (V : Nat → BitVec 32) (x y : BitVec 32) (w : World) :
    Calls Try.prog 15 #[.agg (words 16 V), .int .i64 (pl k 0 : Nat), .int .i64 (pl k 1 : Nat), .int .i64 (pl k 2 : Nat), .int .i64 (pl k 3 : Nat), U32 x, U32 y] w fun e w' => e = .returned (.tuple #[.agg (words 16 (mixV V (pl k 0) (pl k 1) (pl k 2) (pl k 3) x y)), .int .i64 0]) ∧ Keeps w w' [] := by
  have h := refg_any V (pl k 0 : Nat) (pl k 1 : Nat) (pl k 2 : Nat) (pl k 3 : Nat) x y w
  rwa [gSt_yes _ _ _ (fourB_pl k hk), gEr_yes (fourB_pl k hk)] at h
theorem refung_pl (k : Nat) (hk : k < 8) (V : Nat → BitVec 32) (x y : BitVec 32) (w : World) :
    Calls Try.prog 17 #[.agg (words 16 V), .int .i64 (pl k 0 : Nat), .int .i64 (pl k 1 : Nat), .int .i64 (pl k 2 : Nat), .int .i64 (pl k 3 : Nat), U32 x, U32 y] w fun e w' => e = .returned (.tuple #[.agg (words 16 (unmV V (pl k 0) (pl k 1) (pl k 2) (pl k 3) x y)), .int .i64 0]) ∧ Keeps w w' [] := by
  have h := refung_any V (pl k 0 : Nat) (pl k 1 : Nat) (pl k 2 : Nat) (pl k 3 : Nat) x y w
  rwa [uSt_yes _ _ _ (fourB_pl k hk), gEr_yes (fourB_pl k hk)] at h

theorem pl_index (k : Nat) (hk : k < 8) (w : World) : (Instr.index 88 (.agg (ints 32 fun i => pl (i / 4) (i % 4))) (.int .i64 (k : Int))).run Try.prog w = .ok (.agg (ints 4 (pl k))) w := by
  have i0 : ∀ w, (Instr.index 88 (.agg (ints 32 fun i => pl (i / 4) (i % 4))) (.int .i64 ((0 : Nat) : Int))).run Try.prog w = .ok (.agg (ints 4 (pl 0))) w := fun _ => by kernel_rfl
  have i1 : ∀ w, (Instr.index 88 (.agg (ints 32 fun i => pl (i / 4) (i % 4))) (.int .i64 ((1 : Nat) : Int))).run Try.prog w = .ok (.agg (ints 4 (pl 1))) w := fun _ => by kernel_rfl
  have i2 : ∀ w, (Instr.index 88 (.agg (ints 32 fun i => pl (i / 4) (i % 4))) (.int .i64 ((2 : Nat) : Int))).run Try.prog w = .ok (.agg (ints 4 (pl 2))) w := fun _ => by kernel_rfl
  have i3 : ∀ w, (Instr.index 88 (.agg (ints 32 fun i => pl (i / 4) (i % 4))) (.int .i64 ((3 : Nat) : Int))).run Try.prog w = .ok (.agg (ints 4 (pl 3))) w := fun _ => by kernel_rfl
  have i4 : ∀ w, (Instr.index 88 (.agg (ints 32 fun i => pl (i / 4) (i % 4))) (.int .i64 ((4 : Nat) : Int))).run Try.prog w = .ok (.agg (ints 4 (pl 4))) w := fun _ => by kernel_rfl
  have i5 : ∀ w, (Instr.index 88 (.agg (ints 32 fun i => pl (i / 4) (i % 4))) (.int .i64 ((5 : Nat) : Int))).run Try.prog w = .ok (.agg (ints 4 (pl 5))) w := fun _ => by kernel_rfl
  have i6 : ∀ w, (Instr.index 88 (.agg (ints 32 fun i => pl (i / 4) (i % 4))) (.int .i64 ((6 : Nat) : Int))).run Try.prog w = .ok (.agg (ints 4 (pl 6))) w := fun _ => by kernel_rfl
  have i7 : ∀ w, (Instr.index 88 (.agg (ints 32 fun i => pl (i / 4) (i % 4))) (.int .i64 ((7 : Nat) : Int))).run Try.prog w = .ok (.agg (ints 4 (pl 7))) w := fun _ => by kernel_rfl
  match k, hk with
  | 0, _ => exact i0 w
  | 1, _ => exact i1 w
  | 2, _ => exact i2 w
  | 3, _ => exact i3 w
  | 4, _ => exact i4 w
  | 5, _ => exact i5 w
  | 6, _ => exact i6 w
  | 7, _ => exact i7 w

set_option maxHeartbeats 1000000 in
theorem round_in {t t' : TypeId} (V M : Nat → BitVec 32) (B C : Nat) (r : Int) (w : World) (hB : Blk w B t (words 16 V)) (hC : Blk w C t' (words 16 M)) (hne : C ≠ B) :
    Calls Try.prog 55 #[.pointer (some ⟨B, 0, none⟩), .pointer (some ⟨C, 0, none⟩), .int .i64 r] w fun e w' => e = .returned (.tuple #[]) ∧ Keeps w w' [B] ∧ Blk w' B t (words 16 (roundV V M (row r))) := by
  have O := (Own.start w [B]).have_ hB (by simp) (by simp)
  have hq := row_lt r
  generalize hrow : row r = q at *
  have HQ := Lib.hid hrow
  clear hrow hB
  go_enter Try.func55, Try.ntmps55
  go_wp2_with (first
    | (go_at_call 61; refine (sigma_any _ _).mono ?_; rintro e W ⟨he, K⟩; rw [HQ.out] at he; subst he; replace O := O.keeps K; clear K)
    | (refine own_alloc 6 (ints 16 fun _ => 0) O rfl rfl rfl (fun _ => by kernel_rfl) ?_; clear O; intro W a6 O; simp only [Act.put, List.setIfInBounds_toArray, List.set_cons_zero, List.set_cons_succ])
    | (refine own_store_row 0 (.tmp 6) (.tmp 10) O rfl rfl rfl rfl rfl rfl (by kernel_rfl) (by simp only [ints_size]) (ints_cell _ _) ?_; clear O; intro W O; simp only [List.set_cons_zero] at O)
    | (go_at_call 62; refine (places_any _).mono ?_; rintro e W ⟨rfl, K⟩; replace O := O.keeps K; clear K))
  go_loopw [12] (fun i wr => ∃ k : Nat, k ≤ 8 ∧ i = .int .i64 k ∧ Own w wr [B] [(a6, 86, ints 16 (sig q)), (B, t, words 16 (rndK M q V k))]) (fun i _ => 8 - (intOf i).toNat)
  case atStart => exact ⟨0, by omega, rfl, O⟩
  case round =>
    obtain ⟨k, hk, rfl, O⟩ := hrel
    by_cases hlt : k < 8
    · have g1 : ((k : Int)) < 8 := by omega
      have s0 := sig_lt q (2 * k) hq (by omega)
      have s1 := sig_lt q (2 * k + 1) hq (by omega)
      have m1 : IntKind.i64.wrap (2 * (k : Int)) = 2 * k := IntWalk.i64_in _ (by omega)
      have m2 : IntKind.i64.wrap (2 * (k : Int) + 1) = 2 * k + 1 := IntWalk.i64_in _ (by omega)
      have m3 : (0 : Int) ≤ 2 * k := by omega
      have m4 : (2 * (k : Int)).toNat = 2 * k := by omega
      have m5 : (2 * (k : Int) + 1).toNat = 2 * k + 1 := by omega
      have m6 : 2 * (k : Int) < 16 := by omega
      have m9 : 2 * k < 16 := by omega
      have m10 : 2 * k + 1 < 16 := by omega
      have m7 : 2 * (k : Int) + 1 < 16 := by omega
      have m8 : (0 : Int) ≤ 2 * k + 1 := by omega
      have HM := Lib.hid (And.intro m1 (And.intro m2 (And.intro m4 m5)))
      clear m1 m2 m4 m5
      have ipl := pl_index k hlt
      go_wp2_with (first
        | (refine wpList_const 15 (.agg (ints 4 (pl k))) rfl rfl ipl ?_; simp only [Act.put, List.setIfInBounds_toArray, List.set_cons_zero, List.set_cons_succ])
        | (refine own_alloc 8 (ints 4 fun _ => 0) O rfl rfl rfl (fun _ => by kernel_rfl) ?_; clear O; intro W a8 O; simp only [Act.put, List.setIfInBounds_toArray, List.set_cons_zero, List.set_cons_succ])
        | (refine own_store_row 0 (.tmp 8) (.tmp 15) O rfl rfl rfl rfl rfl rfl (by kernel_rfl) (by simp only [ints_size]) (ints_cell _ _) ?_; clear O; intro W O; simp only [List.set_cons_zero] at O))
      clear ipl
      obtain ⟨m1, m2, m4, m5⟩ := HM.out
      have c8 := (O.get 0 rfl).cell
      have c6 := (O.get 1 rfl).cell
      have cM := (hC.keeps O.keep (by simpa using hne)).cell
      refine wp_quiet_tail_drawn 26 (by kernel_rfl) (by kernel_rfl) ?_
      simp only [List.take, List.drop]
      repeat (go_big_quiet_step (fail))
      refine wpQuiet_nil ?_
      intro _ hw
      obtain ⟨n0, rfl⟩ := hw
      replace O := O.drewN n0
      clear c8 c6 cM m1 m2 m4 m5
      generalize World.drewN _ n0 = W at O ⊢
      go_wp2_with (go_at_call 48; refine (mix_any (pl k 0) (pl k 1) (pl k 2) (pl k 3) _ _ B _ W (O.get 2 rfl) (pl_lt k 0 hlt (by omega)) (pl_lt k 1 hlt (by omega)) (pl_lt k 2 hlt (by omega)) (pl_lt k 3 hlt (by omega))).mono ?_; rintro e W ⟨rfl, K, B1⟩; replace O := (O.set 2 rfl K B1).drop_ 1; clear K B1; simp only [List.set_cons_zero, List.set_cons_succ] at O)
      go_roundw
      case rel => exact ⟨k + 1, by omega, by go_num, O⟩
      case measure => (simp [intOf] <;> omega)
    · obtain rfl : k = 8 := by omega
      go_wp2
      go_end0
      exact ⟨rfl, O.keep, O.get 1 rfl⟩

set_option maxHeartbeats 1000000 in
theorem unround_in {t t' : TypeId} (V M : Nat → BitVec 32) (B C : Nat) (r : Int) (w : World) (hB : Blk w B t (words 16 V)) (hC : Blk w C t' (words 16 M)) (hne : C ≠ B) :
    Calls Try.prog 58 #[.pointer (some ⟨B, 0, none⟩), .pointer (some ⟨C, 0, none⟩), .int .i64 r] w fun e w' => e = .returned (.tuple #[]) ∧ Keeps w w' [B] ∧ Blk w' B t (words 16 (backV V M (row r))) := by
  have O := (Own.start w [B]).have_ hB (by simp) (by simp)
  have hq := row_lt r
  generalize hrow : row r = q at *
  have HQ := Lib.hid hrow
  clear hrow hB
  go_enter Try.func58, Try.ntmps58
  go_wp2_with (first
    | (go_at_call 61; refine (sigma_any _ _).mono ?_; rintro e W ⟨he, K⟩; rw [HQ.out] at he; subst he; replace O := O.keeps K; clear K)
    | (go_at_call 62; refine (places_any _).mono ?_; rintro e W ⟨rfl, K⟩; replace O := O.keeps K; clear K)
    | (refine own_alloc 6 (ints 16 fun _ => 0) O rfl rfl rfl (fun _ => by kernel_rfl) ?_; clear O; intro W a6 O; simp only [Act.put, List.setIfInBounds_toArray, List.set_cons_zero, List.set_cons_succ])
    | (refine own_alloc 7 (ints 32 fun _ => 0) O rfl rfl rfl (fun _ => by kernel_rfl) ?_; clear O; intro W a7 O; simp only [Act.put, List.setIfInBounds_toArray, List.set_cons_zero, List.set_cons_succ])
    | (refine own_store_row 1 (.tmp 6) (.tmp 11) O rfl rfl rfl rfl rfl rfl (by kernel_rfl) (by simp only [ints_size]) (ints_cell _ _) ?_; clear O; intro W O; simp only [List.set_cons_zero, List.set_cons_succ] at O)
    | (refine own_store_row 0 (.tmp 7) (.tmp 12) O rfl rfl rfl rfl rfl rfl (by kernel_rfl) (by simp only [ints_size]) (ints_cell _ _) ?_; clear O; intro W O; simp only [List.set_cons_zero] at O))
  go_loopw [8] (fun i wr => ∃ j : Nat, j ≤ 8 ∧ i = .int .i64 ((j : Int) - 1) ∧ Own w wr [B] [(a7, 88, ints 32 fun i => pl (i / 4) (i % 4)), (a6, 86, ints 16 (sig q)), (B, t, words 16 (bckK M q V (8 - j)))]) (fun i _ => (intOf i + 1).toNat)
  case atStart => exact ⟨8, by omega, rfl, O⟩
  case round =>
    obtain ⟨j, hj, rfl, O⟩ := hrel
    cases j with
    | zero =>
      have hz : ¬ ((0 : Int) ≤ ((0 : Nat) : Int) - 1) := by omega
      go_wp2
      go_end0
      exact ⟨rfl, O.keep, O.get 2 rfl⟩
    | succ k =>
      have e0 : ((k + 1 : Nat) : Int) - 1 = k := by omega
      rw [e0]
      clear e0
      have hlt : k < 8 := by omega
      have g1 : ((k : Int)) < 8 := by omega
      have g2 : (0 : Int) ≤ k := by omega
      have EB := Lib.hid (bck_step M V q k hlt)
      have s0 := sig_lt q (2 * k) hq (by omega)
      have s1 := sig_lt q (2 * k + 1) hq (by omega)
      have m1 : IntKind.i64.wrap (2 * (k : Int)) = 2 * k := IntWalk.i64_in _ (by omega)
      have m2 : IntKind.i64.wrap (2 * (k : Int) + 1) = 2 * k + 1 := IntWalk.i64_in _ (by omega)
      have m3 : (0 : Int) ≤ 2 * k := by omega
      have m4 : (2 * (k : Int)).toNat = 2 * k := by omega
      have m5 : (2 * (k : Int) + 1).toNat = 2 * k + 1 := by omega
      have m6 : 2 * (k : Int) < 16 := by omega
      have m9 : 2 * k < 16 := by omega
      have m10 : 2 * k + 1 < 16 := by omega
      have m7 : 2 * (k : Int) + 1 < 16 := by omega
      have m8 : (0 : Int) ≤ 2 * k + 1 := by omega
      have HM := Lib.hid (And.intro m1 (And.intro m2 (And.intro m4 m5)))
      clear m1 m2 m4 m5
      go_wp2_with (first
        | (refine own_load_part (part := ints 4 (pl k)) 19 0 O rfl rfl rfl rfl rfl Try.underlying82 rfl (by kernel_rfl) ?_ ?_; (exact fun j hj => pl_get k j hlt (by simpa [ints_size] using hj)); simp only [Act.put, List.setIfInBounds_toArray, List.set_cons_zero, List.set_cons_succ])
        | (refine own_alloc 9 (ints 4 fun _ => 0) O rfl rfl rfl (fun _ => by kernel_rfl) ?_; clear O; intro W a9 O; simp only [Act.put, List.setIfInBounds_toArray, List.set_cons_zero, List.set_cons_succ])
        | (refine own_store_row 0 (.tmp 9) (.tmp 19) O rfl rfl rfl rfl rfl rfl (by kernel_rfl) (by simp only [ints_size]) (ints_cell _ _) ?_; clear O; intro W O; simp only [List.set_cons_zero] at O))
      obtain ⟨m1, m2, m4, m5⟩ := HM.out
      have c8 := (O.get 0 rfl).cell
      have c6 := (O.get 2 rfl).cell
      have cM := (hC.keeps O.keep (by simpa using hne)).cell
      refine wp_quiet_tail_drawn 26 (by kernel_rfl) (by kernel_rfl) ?_
      simp only [List.take, List.drop]
      repeat (go_big_quiet_step (fail))
      refine wpQuiet_nil ?_
      intro _ hw
      obtain ⟨n0, rfl⟩ := hw
      replace O := O.drewN n0
      clear c8 c6 cM m1 m2 m4 m5
      generalize World.drewN _ n0 = W at O ⊢
      go_wp2_with (go_at_call 51; refine (unm_any (pl k 0) (pl k 1) (pl k 2) (pl k 3) _ _ B _ W (O.get 3 rfl) (pl_lt k 0 hlt (by omega)) (pl_lt k 1 hlt (by omega)) (pl_lt k 2 hlt (by omega)) (pl_lt k 3 hlt (by omega))).mono ?_; rintro e W ⟨rfl, K, B1⟩; replace O := (O.set 3 rfl K B1).drop_ 1; clear K B1; simp only [List.set_cons_zero, List.set_cons_succ] at O)
      go_roundw
      case rel => exact ⟨k, by omega, by go_num, by rw [EB.out]; exact O⟩
      case measure => (simp [intOf] <;> omega)

def rOk (r : Int) : Bool := decide (0 ≤ r) && decide (r ≤ 9)
def rSt (V M : Nat → BitVec 32) (r : Int) : Nat → BitVec 32 := if rOk r then roundV V M (row r) else fun _ => 0
def bSt (V M : Nat → BitVec 32) (r : Int) : Nat → BitVec 32 := if rOk r then backV V M (row r) else fun _ => 0
def rEr (r : Int) : Int := if rOk r then 0 else 1
theorem rOk_good {r : Int} (h : 0 ≤ r ∧ r ≤ 9) : rOk r = true := by simp [rOk, h]
theorem rOk_bad {r : Int} (h : r < 0 ∨ 9 < r) : rOk r = false := by
  unfold rOk
  rcases h with h | h
  · rw [decide_eq_false (by omega)]; rfl
  · rw [decide_eq_false (p := r ≤ 9) (by omega), Bool.and_false]

theorem round_bad0 (V M : Nat → BitVec 32) (r : Int) (h : r < 0) (w : World) :
    Calls Try.prog 33 #[.agg (words 16 V), .agg (words 16 M), .int .i64 r] w fun e w' => e = .returned (.tuple #[.agg (words 16 (rSt V M r)), .int .i64 (rEr r)]) ∧ Keeps w w' [] := by
  have O := Own.start w []
  have HE := Lib.hid (show (rSt V M r, rEr r) = ((fun _ => 0 : Nat → BitVec 32), (1 : Int)) by unfold rSt rEr; rw [rOk_bad (by omega)]; rfl)
  go_enter Try.func33, Try.ntmps33
  go_wp2_with (first
    | (refine own_box 3 (words 16 V) O rfl rfl rfl rfl ?_; clear O; intro W a3 O; simp only [Act.put, List.setIfInBounds_toArray, List.set_cons_zero, List.set_cons_succ])
    | (refine own_box 4 (words 16 M) O rfl rfl rfl rfl ?_; clear O; intro W a4 O; simp only [Act.put, List.setIfInBounds_toArray, List.set_cons_zero, List.set_cons_succ])
    | (refine own_alloc 6 (words 16 fun _ => 0) O rfl rfl rfl (fun _ => by kernel_rfl) ?_; clear O; intro W a6 O; simp only [Act.put, List.setIfInBounds_toArray, List.set_cons_zero, List.set_cons_succ])
    | (refine wpList_const 14 (.agg (words 16 fun _ => 0)) rfl rfl (fun _ => by kernel_rfl) ?_; simp only [Act.put, List.setIfInBounds_toArray, List.set_cons_zero, List.set_cons_succ])
    | (refine own_store_row 0 (.tmp 6) (.tmp 14) O rfl rfl rfl rfl rfl rfl (by kernel_rfl) (by simp only [words_size]) (words_cell _ _) ?_; clear O; intro W O; simp only [List.set_cons_zero] at O))
  refine bodyPost_ret (v := .tuple #[.agg (words 16 fun _ => 0), .int .i64 1]) (results_cell_tmp rfl _ _ a6 23 _ _ rfl (O.get 0 rfl) Try.underlying23 rfl (by kernel_rfl) _ rfl) rfl ⟨?_, O.keep⟩
  rw [show rSt V M r = fun _ => 0 from congrArg Prod.fst HE.out, show rEr r = 1 from congrArg Prod.snd HE.out]

theorem round_bad1 (V M : Nat → BitVec 32) (r : Int) (h : 9 < r) (w : World) :
    Calls Try.prog 33 #[.agg (words 16 V), .agg (words 16 M), .int .i64 r] w fun e w' => e = .returned (.tuple #[.agg (words 16 (rSt V M r)), .int .i64 (rEr r)]) ∧ Keeps w w' [] := by
  have O := Own.start w []
  have HE := Lib.hid (show (rSt V M r, rEr r) = ((fun _ => 0 : Nat → BitVec 32), (1 : Int)) by unfold rSt rEr; rw [rOk_bad (by omega)]; rfl)
  have h0 : ¬ r < 0 := by omega
  go_enter Try.func33, Try.ntmps33
  go_wp2_with (first
    | (refine own_box 3 (words 16 V) O rfl rfl rfl rfl ?_; clear O; intro W a3 O; simp only [Act.put, List.setIfInBounds_toArray, List.set_cons_zero, List.set_cons_succ])
    | (refine own_box 4 (words 16 M) O rfl rfl rfl rfl ?_; clear O; intro W a4 O; simp only [Act.put, List.setIfInBounds_toArray, List.set_cons_zero, List.set_cons_succ])
    | (refine own_alloc 6 (words 16 fun _ => 0) O rfl rfl rfl (fun _ => by kernel_rfl) ?_; clear O; intro W a6 O; simp only [Act.put, List.setIfInBounds_toArray, List.set_cons_zero, List.set_cons_succ])
    | (refine wpList_const 14 (.agg (words 16 fun _ => 0)) rfl rfl (fun _ => by kernel_rfl) ?_; simp only [Act.put, List.setIfInBounds_toArray, List.set_cons_zero, List.set_cons_succ])
    | (refine own_store_row 0 (.tmp 6) (.tmp 14) O rfl rfl rfl rfl rfl rfl (by kernel_rfl) (by simp only [words_size]) (words_cell _ _) ?_; clear O; intro W O; simp only [List.set_cons_zero] at O))
  refine bodyPost_ret (v := .tuple #[.agg (words 16 fun _ => 0), .int .i64 1]) (results_cell_tmp rfl _ _ a6 23 _ _ rfl (O.get 0 rfl) Try.underlying23 rfl (by kernel_rfl) _ rfl) rfl ⟨?_, O.keep⟩
  rw [show rSt V M r = fun _ => 0 from congrArg Prod.fst HE.out, show rEr r = 1 from congrArg Prod.snd HE.out]

set_option maxHeartbeats 1000000 in
theorem round_good (V M : Nat → BitVec 32) (r : Int) (h0 : 0 ≤ r) (h1 : r ≤ 9) (w : World) :
    Calls Try.prog 33 #[.agg (words 16 V), .agg (words 16 M), .int .i64 r] w fun e w' => e = .returned (.tuple #[.agg (words 16 (rSt V M r)), .int .i64 (rEr r)]) ∧ Keeps w w' [] := by
  have O := Own.start w []
  have HE := Lib.hid (show (rSt V M r, rEr r) = (roundV V M (row r), (0 : Int)) by unfold rSt rEr; rw [rOk_good ⟨h0, h1⟩]; rfl)
  have h2 : ¬ r < 0 := by omega
  have h3 : ¬ 9 < r := by omega
  go_enter Try.func33, Try.ntmps33
  go_wp2_with (first
    | (refine own_box 3 (words 16 V) O rfl rfl rfl rfl ?_; clear O; intro W a3 O; simp only [Act.put, List.setIfInBounds_toArray, List.set_cons_zero, List.set_cons_succ])
    | (refine own_box 4 (words 16 M) O rfl rfl rfl rfl ?_; clear O; intro W a4 O; simp only [Act.put, List.setIfInBounds_toArray, List.set_cons_zero, List.set_cons_succ])
    | (refine own_alloc 6 (words 16 fun _ => 0) O rfl rfl rfl (fun _ => by kernel_rfl) ?_; clear O; intro W a6 O; simp only [Act.put, List.setIfInBounds_toArray, List.set_cons_zero, List.set_cons_succ])
    | (go_at_call 55; refine (round_in V M a3 a4 r W (O.get 2 rfl) (O.get 1 rfl) (O.apart (i := 1) (j := 2) rfl rfl (by decide))).mono ?_; rintro e W ⟨rfl, K, B⟩; replace O := O.set 2 rfl K B; clear K B; simp only [List.set_cons_zero, List.set_cons_succ] at O)
    | (refine own_load 17 2 O rfl rfl rfl rfl rfl Try.underlying23 rfl (by kernel_rfl) ?_; simp only [Act.put, List.setIfInBounds_toArray, List.set_cons_zero, List.set_cons_succ])
    | (refine own_store_row 0 (.tmp 6) (.tmp 17) O rfl rfl rfl rfl rfl rfl (by kernel_rfl) (by simp only [words_size]) (words_cell _ _) ?_; clear O; intro W O; simp only [List.set_cons_zero] at O))
  refine bodyPost_ret (v := .tuple #[.agg (words 16 (roundV V M (row r))), .int .i64 0]) (results_cell_tmp rfl _ _ a6 23 _ _ rfl (O.get 0 rfl) Try.underlying23 rfl (by kernel_rfl) _ rfl) rfl ⟨?_, O.keep⟩
  rw [show rSt V M r = roundV V M (row r) from congrArg Prod.fst HE.out, show rEr r = 0 from congrArg Prod.snd HE.out]

theorem round_any (V M : Nat → BitVec 32) (r : Int) (w : World) :
    Calls Try.prog 33 #[.agg (words 16 V), .agg (words 16 M), .int .i64 r] w fun e w' => e = .returned (.tuple #[.agg (words 16 (rSt V M r)), .int .i64 (rEr r)]) ∧ Keeps w w' [] := by
  by_cases h0 : r < 0
  · exact round_bad0 V M r h0 w
  · by_cases h1 : 9 < r
    · exact round_bad1 V M r h1 w
    · exact round_good V M r (by omega) (by omega) w

theorem unround_bad0 (V M : Nat → BitVec 32) (r : Int) (h : r < 0) (w : World) :
    Calls Try.prog 35 #[.agg (words 16 V), .agg (words 16 M), .int .i64 r] w fun e w' => e = .returned (.tuple #[.agg (words 16 (bSt V M r)), .int .i64 (rEr r)]) ∧ Keeps w w' [] := by
  have O := Own.start w []
  have HE := Lib.hid (show (bSt V M r, rEr r) = ((fun _ => 0 : Nat → BitVec 32), (1 : Int)) by unfold bSt rEr; rw [rOk_bad (by omega)]; rfl)
  go_enter Try.func35, Try.ntmps35
  go_wp2_with (first
    | (refine own_box 3 (words 16 V) O rfl rfl rfl rfl ?_; clear O; intro W a3 O; simp only [Act.put, List.setIfInBounds_toArray, List.set_cons_zero, List.set_cons_succ])
    | (refine own_box 4 (words 16 M) O rfl rfl rfl rfl ?_; clear O; intro W a4 O; simp only [Act.put, List.setIfInBounds_toArray, List.set_cons_zero, List.set_cons_succ])
    | (refine own_alloc 6 (words 16 fun _ => 0) O rfl rfl rfl (fun _ => by kernel_rfl) ?_; clear O; intro W a6 O; simp only [Act.put, List.setIfInBounds_toArray, List.set_cons_zero, List.set_cons_succ])
    | (refine wpList_const 14 (.agg (words 16 fun _ => 0)) rfl rfl (fun _ => by kernel_rfl) ?_; simp only [Act.put, List.setIfInBounds_toArray, List.set_cons_zero, List.set_cons_succ])
    | (refine own_store_row 0 (.tmp 6) (.tmp 14) O rfl rfl rfl rfl rfl rfl (by kernel_rfl) (by simp only [words_size]) (words_cell _ _) ?_; clear O; intro W O; simp only [List.set_cons_zero] at O))
  refine bodyPost_ret (v := .tuple #[.agg (words 16 fun _ => 0), .int .i64 1]) (results_cell_tmp rfl _ _ a6 23 _ _ rfl (O.get 0 rfl) Try.underlying23 rfl (by kernel_rfl) _ rfl) rfl ⟨?_, O.keep⟩
  rw [show bSt V M r = fun _ => 0 from congrArg Prod.fst HE.out, show rEr r = 1 from congrArg Prod.snd HE.out]

theorem unround_bad1 (V M : Nat → BitVec 32) (r : Int) (h : 9 < r) (w : World) :
    Calls Try.prog 35 #[.agg (words 16 V), .agg (words 16 M), .int .i64 r] w fun e w' => e = .returned (.tuple #[.agg (words 16 (bSt V M r)), .int .i64 (rEr r)]) ∧ Keeps w w' [] := by
  have O := Own.start w []
  have HE := Lib.hid (show (bSt V M r, rEr r) = ((fun _ => 0 : Nat → BitVec 32), (1 : Int)) by unfold bSt rEr; rw [rOk_bad (by omega)]; rfl)
  have h0 : ¬ r < 0 := by omega
  go_enter Try.func35, Try.ntmps35
  go_wp2_with (first
    | (refine own_box 3 (words 16 V) O rfl rfl rfl rfl ?_; clear O; intro W a3 O; simp only [Act.put, List.setIfInBounds_toArray, List.set_cons_zero, List.set_cons_succ])
    | (refine own_box 4 (words 16 M) O rfl rfl rfl rfl ?_; clear O; intro W a4 O; simp only [Act.put, List.setIfInBounds_toArray, List.set_cons_zero, List.set_cons_succ])
    | (refine own_alloc 6 (words 16 fun _ => 0) O rfl rfl rfl (fun _ => by kernel_rfl) ?_; clear O; intro W a6 O; simp only [Act.put, List.setIfInBounds_toArray, List.set_cons_zero, List.set_cons_succ])
    | (refine wpList_const 14 (.agg (words 16 fun _ => 0)) rfl rfl (fun _ => by kernel_rfl) ?_; simp only [Act.put, List.setIfInBounds_toArray, List.set_cons_zero, List.set_cons_succ])
    | (refine own_store_row 0 (.tmp 6) (.tmp 14) O rfl rfl rfl rfl rfl rfl (by kernel_rfl) (by simp only [words_size]) (words_cell _ _) ?_; clear O; intro W O; simp only [List.set_cons_zero] at O))
  refine bodyPost_ret (v := .tuple #[.agg (words 16 fun _ => 0), .int .i64 1]) (results_cell_tmp rfl _ _ a6 23 _ _ rfl (O.get 0 rfl) Try.underlying23 rfl (by kernel_rfl) _ rfl) rfl ⟨?_, O.keep⟩
  rw [show bSt V M r = fun _ => 0 from congrArg Prod.fst HE.out, show rEr r = 1 from congrArg Prod.snd HE.out]

set_option maxHeartbeats 1000000 in
theorem unround_good (V M : Nat → BitVec 32) (r : Int) (h0 : 0 ≤ r) (h1 : r ≤ 9) (w : World) :
    Calls Try.prog 35 #[.agg (words 16 V), .agg (words 16 M), .int .i64 r] w fun e w' => e = .returned (.tuple #[.agg (words 16 (bSt V M r)), .int .i64 (rEr r)]) ∧ Keeps w w' [] := by
  have O := Own.start w []
  have HE := Lib.hid (show (bSt V M r, rEr r) = (backV V M (row r), (0 : Int)) by unfold bSt rEr; rw [rOk_good ⟨h0, h1⟩]; rfl)
  have h2 : ¬ r < 0 := by omega
  have h3 : ¬ 9 < r := by omega
  go_enter Try.func35, Try.ntmps35
  go_wp2_with (first
    | (refine own_box 3 (words 16 V) O rfl rfl rfl rfl ?_; clear O; intro W a3 O; simp only [Act.put, List.setIfInBounds_toArray, List.set_cons_zero, List.set_cons_succ])
    | (refine own_box 4 (words 16 M) O rfl rfl rfl rfl ?_; clear O; intro W a4 O; simp only [Act.put, List.setIfInBounds_toArray, List.set_cons_zero, List.set_cons_succ])
    | (refine own_alloc 6 (words 16 fun _ => 0) O rfl rfl rfl (fun _ => by kernel_rfl) ?_; clear O; intro W a6 O; simp only [Act.put, List.setIfInBounds_toArray, List.set_cons_zero, List.set_cons_succ])
    | (go_at_call 58; refine (unround_in V M a3 a4 r W (O.get 2 rfl) (O.get 1 rfl) (O.apart (i := 1) (j := 2) rfl rfl (by decide))).mono ?_; rintro e W ⟨rfl, K, B⟩; replace O := O.set 2 rfl K B; clear K B; simp only [List.set_cons_zero, List.set_cons_succ] at O)
    | (refine own_load 17 2 O rfl rfl rfl rfl rfl Try.underlying23 rfl (by kernel_rfl) ?_; simp only [Act.put, List.setIfInBounds_toArray, List.set_cons_zero, List.set_cons_succ])
    | (refine own_store_row 0 (.tmp 6) (.tmp 17) O rfl rfl rfl rfl rfl rfl (by kernel_rfl) (by simp only [words_size]) (words_cell _ _) ?_; clear O; intro W O; simp only [List.set_cons_zero] at O))
  refine bodyPost_ret (v := .tuple #[.agg (words 16 (backV V M (row r))), .int .i64 0]) (results_cell_tmp rfl _ _ a6 23 _ _ rfl (O.get 0 rfl) Try.underlying23 rfl (by kernel_rfl) _ rfl) rfl ⟨?_, O.keep⟩
  rw [show bSt V M r = backV V M (row r) from congrArg Prod.fst HE.out, show rEr r = 0 from congrArg Prod.snd HE.out]

theorem unround_any (V M : Nat → BitVec 32) (r : Int) (w : World) :
    Calls Try.prog 35 #[.agg (words 16 V), .agg (words 16 M), .int .i64 r] w fun e w' => e = .returned (.tuple #[.agg (words 16 (bSt V M r)), .int .i64 (rEr r)]) ∧ Keeps w w' [] := by
  by_cases h0 : r < 0
  · exact unround_bad0 V M r h0 w
  · by_cases h1 : 9 < r
    · exact unround_bad1 V M r h1 w
    · exact unround_good V M r (by omega) (by omega) w

theorem refround_bad0 (V M : Nat → BitVec 32) (r : Int) (h : r < 0) (w : World) :
    Calls Try.prog 34 #[.agg (words 16 V), .agg (words 16 M), .int .i64 r] w fun e w' => e = .returned (.tuple #[.agg (words 16 (rSt V M r)), .int .i64 (rEr r)]) ∧ Keeps w w' [] := by
  have O := Own.start w []
  have HE := Lib.hid (show (rSt V M r, rEr r) = ((fun _ => 0 : Nat → BitVec 32), (1 : Int)) by unfold rSt rEr; rw [rOk_bad (by omega)]; rfl)
  go_enter Try.func34, Try.ntmps34
  go_wp2_with (first
    | (refine own_box 3 (words 16 V) O rfl rfl rfl rfl ?_; clear O; intro W a3 O; simp only [Act.put, List.setIfInBounds_toArray, List.set_cons_zero, List.set_cons_succ])
    | (refine own_box 4 (words 16 M) O rfl rfl rfl rfl ?_; clear O; intro W a4 O; simp only [Act.put, List.setIfInBounds_toArray, List.set_cons_zero, List.set_cons_succ])
    | (refine own_alloc 6 (words 16 fun _ => 0) O rfl rfl rfl (fun _ => by kernel_rfl) ?_; clear O; intro W a6 O; simp only [Act.put, List.setIfInBounds_toArray, List.set_cons_zero, List.set_cons_succ])
    | (refine wpList_const 19 (.agg (words 16 fun _ => 0)) rfl rfl (fun _ => by kernel_rfl) ?_; simp only [Act.put, List.setIfInBounds_toArray, List.set_cons_zero, List.set_cons_succ])
    | (refine own_store_row 0 (.tmp 6) (.tmp 19) O rfl rfl rfl rfl rfl rfl (by kernel_rfl) (by simp only [words_size]) (words_cell _ _) ?_; clear O; intro W O; simp only [List.set_cons_zero] at O))
  refine bodyPost_ret (v := .tuple #[.agg (words 16 fun _ => 0), .int .i64 1]) (results_cell_tmp rfl _ _ a6 23 _ _ rfl (O.get 0 rfl) Try.underlying23 rfl (by kernel_rfl) _ rfl) rfl ⟨?_, O.keep⟩
  rw [show rSt V M r = fun _ => 0 from congrArg Prod.fst HE.out, show rEr r = 1 from congrArg Prod.snd HE.out]

theorem refround_bad1 (V M : Nat → BitVec 32) (r : Int) (h : 9 < r) (w : World) :
    Calls Try.prog 34 #[.agg (words 16 V), .agg (words 16 M), .int .i64 r] w fun e w' => e = .returned (.tuple #[.agg (words 16 (rSt V M r)), .int .i64 (rEr r)]) ∧ Keeps w w' [] := by
  have O := Own.start w []
  have HE := Lib.hid (show (rSt V M r, rEr r) = ((fun _ => 0 : Nat → BitVec 32), (1 : Int)) by unfold rSt rEr; rw [rOk_bad (by omega)]; rfl)
  have h0 : ¬ r < 0 := by omega
  go_enter Try.func34, Try.ntmps34
  go_wp2_with (first
    | (refine own_box 3 (words 16 V) O rfl rfl rfl rfl ?_; clear O; intro W a3 O; simp only [Act.put, List.setIfInBounds_toArray, List.set_cons_zero, List.set_cons_succ])
    | (refine own_box 4 (words 16 M) O rfl rfl rfl rfl ?_; clear O; intro W a4 O; simp only [Act.put, List.setIfInBounds_toArray, List.set_cons_zero, List.set_cons_succ])
    | (refine own_alloc 6 (words 16 fun _ => 0) O rfl rfl rfl (fun _ => by kernel_rfl) ?_; clear O; intro W a6 O; simp only [Act.put, List.setIfInBounds_toArray, List.set_cons_zero, List.set_cons_succ])
    | (refine wpList_const 19 (.agg (words 16 fun _ => 0)) rfl rfl (fun _ => by kernel_rfl) ?_; simp only [Act.put, List.setIfInBounds_toArray, List.set_cons_zero, List.set_cons_succ])
    | (refine own_store_row 0 (.tmp 6) (.tmp 19) O rfl rfl rfl rfl rfl rfl (by kernel_rfl) (by simp only [words_size]) (words_cell _ _) ?_; clear O; intro W O; simp only [List.set_cons_zero] at O))
  refine bodyPost_ret (v := .tuple #[.agg (words 16 fun _ => 0), .int .i64 1]) (results_cell_tmp rfl _ _ a6 23 _ _ rfl (O.get 0 rfl) Try.underlying23 rfl (by kernel_rfl) _ rfl) rfl ⟨?_, O.keep⟩
  rw [show rSt V M r = fun _ => 0 from congrArg Prod.fst HE.out, show rEr r = 1 from congrArg Prod.snd HE.out]

set_option maxHeartbeats 1000000 in
theorem refround_good (V M : Nat → BitVec 32) (r : Int) (h0 : 0 ≤ r) (h1 : r ≤ 9) (w : World) :
    Calls Try.prog 34 #[.agg (words 16 V), .agg (words 16 M), .int .i64 r] w fun e w' => e = .returned (.tuple #[.agg (words 16 (rSt V M r)), .int .i64 (rEr r)]) ∧ Keeps w w' [] := by
  have O := Own.start w []
  have HE := Lib.hid (show (rSt V M r, rEr r) = (roundV V M (row r), (0 : Int)) by unfold rSt rEr; rw [rOk_good ⟨h0, h1⟩]; rfl)
  have h2 : ¬ r < 0 := by omega
  have h3 : ¬ 9 < r := by omega
  have hq := row_lt r
  go_enter Try.func34, Try.ntmps34
  go_wp2_with (first
    | (refine own_box 3 (words 16 V) O rfl rfl rfl rfl ?_; clear O; intro W a3 O; simp only [Act.put, List.setIfInBounds_toArray, List.set_cons_zero, List.set_cons_succ])
    | (refine own_box 4 (words 16 M) O rfl rfl rfl rfl ?_; clear O; intro W a4 O; simp only [Act.put, List.setIfInBounds_toArray, List.set_cons_zero, List.set_cons_succ])
    | (refine own_alloc 6 (words 16 fun _ => 0) O rfl rfl rfl (fun _ => by kernel_rfl) ?_; clear O; intro W a6 O; simp only [Act.put, List.setIfInBounds_toArray, List.set_cons_zero, List.set_cons_succ]))
  go_loopw [8] (fun i wr => ∃ k : Nat, k ≤ 8 ∧ i = .int .i64 k ∧ Own w wr [] [(a6, 23, words 16 fun _ => 0), (a4, 23, words 16 M), (a3, 23, words 16 (rndK M (row r) V k))]) (fun i _ => 8 - (intOf i).toNat)
  case atStart => exact ⟨0, by omega, rfl, O⟩
  case round =>
    obtain ⟨k, hk, rfl, O⟩ := hrel
    by_cases hlt : k < 8
    · have g1 : ((k : Int)) < 8 := by omega
      have s0 := sig_lt (row r) (2 * k) hq (by omega)
      have s1 := sig_lt (row r) (2 * k + 1) hq (by omega)
      have m1 : IntKind.i64.wrap (2 * (k : Int)) = 2 * k := IntWalk.i64_in _ (by omega)
      have m2 : IntKind.i64.wrap (2 * (k : Int) + 1) = 2 * k + 1 := IntWalk.i64_in _ (by omega)
      have m3 : (0 : Int) ≤ 2 * k := by omega
      have m4 : (2 * (k : Int)).toNat = 2 * k := by omega
      have m5 : (2 * (k : Int) + 1).toNat = 2 * k + 1 := by omega
      have m6 : 2 * (k : Int) < 16 := by omega
      have m9 : 2 * k < 16 := by omega
      have m10 : 2 * k + 1 < 16 := by omega
      have m7 : 2 * (k : Int) + 1 < 16 := by omega
      have m8 : (0 : Int) ≤ 2 * k + 1 := by omega
      have HM := Lib.hid (And.intro m1 (And.intro m2 (And.intro m4 m5)))
      clear m1 m2 m4 m5
      go_wp2_with (go_at_call 56; refine (refour_any k hlt _).mono ?_; rintro e W ⟨rfl, rfl⟩)
      obtain ⟨m1, m2, m4, m5⟩ := HM.out
      have cM := Later.cell (O.get 1 rfl)
      refine wp_quiet_any (C := fun u => ∃ p : Later wr, u = p.1) 20 #[true, true, true, true, true, true, true, true, true, true, true, true, true, true, true, true, true, true, true, true, false, false, false] (by kernel_rfl) (by kernel_rfl) ⟨⟨wr.drew, (Keeps.refl wr []).drew⟩, rfl⟩ ?_
      simp only [List.take, List.drop]
      repeat (first
        | (refine wpQuiet_load 32 rfl rfl rfl rfl (Later.blk (O.get 2 rfl)) Try.underlying23 rfl (by kernel_rfl) ?_; simp only [Act.put, List.setIfInBounds_toArray, List.set_cons_zero, List.set_cons_succ])
        | go_big_quiet_step (first | (go_at_call 57; first | exact later_left (sigref_at _ _ (2 * k) (by omega) m9 _) | exact later_left (sigref_at _ _ (2 * k + 1) (by omega) m10 _)) | (go_at_call 15; exact later_of (refg_pl k hlt _ _ _ _))))
      refine wpQuiet_nil ?_
      intro _ hw
      obtain ⟨p, rfl⟩ := hw
      replace O := O.keeps p.2
      clear cM m1 m2 m4 m5
      generalize p.1 = W at O ⊢
      refine wpAny_take (i := 20) (v := .agg (words 16 (mixV (rndK M (row r) V k) (pl k 0) (pl k 1) (pl k 2) (pl k 3) (M (sig (row r) (2 * k))) (M (sig (row r) (2 * k + 1)))))) rfl (by kernel_rfl) (by kernel_rfl) (by kernel_rfl) (fun _ _ _ h => h) (Or.inl ⟨by rfl, fun w => by go_simp; try rfl⟩) ?_
      simp only [Act.put, List.setIfInBounds_toArray, List.set_cons_zero, List.set_cons_succ]
      refine wpAny_take (i := 21) (v := .int .i64 0) rfl (by kernel_rfl) (by kernel_rfl) (by kernel_rfl) (fun _ _ _ h => h) (Or.inl ⟨by rfl, fun w => by go_simp; try rfl⟩) ?_
      simp only [Act.put, List.setIfInBounds_toArray, List.set_cons_zero, List.set_cons_succ]
      refine wpAny_last [_] 22 rfl (by kernel_rfl) ?_
      go_wp2_with (refine own_store_row 2 (.tmp 3) (.tmp 51) O rfl rfl rfl rfl rfl rfl (by kernel_rfl) (by simp only [words_size]) (words_cell _ _) ?_; clear O; intro W O; simp only [List.set_cons_zero, List.set_cons_succ] at O)
      go_roundw
      case rel => exact ⟨k + 1, by omega, by go_num, O⟩
      case measure => (simp [intOf] <;> omega)
    · obtain rfl : k = 8 := by omega
      go_wp2_with (first
        | (refine own_load 53 2 O rfl rfl rfl rfl rfl Try.underlying23 rfl (by kernel_rfl) ?_; simp only [Act.put, List.setIfInBounds_toArray, List.set_cons_zero, List.set_cons_succ])
        | (refine own_store_row 0 (.tmp 6) (.tmp 53) O rfl rfl rfl rfl rfl rfl (by kernel_rfl) (by simp only [words_size]) (words_cell _ _) ?_; clear O; intro W O; simp only [List.set_cons_zero] at O))
      refine bodyPost_ret (v := .tuple #[.agg (words 16 (roundV V M (row r))), .int .i64 0]) (results_cell_tmp rfl _ _ a6 23 _ _ rfl (O.get 0 rfl) Try.underlying23 rfl (by kernel_rfl) _ rfl) rfl ⟨?_, O.keep⟩
      rw [show rSt V M r = roundV V M (row r) from congrArg Prod.fst HE.out, show rEr r = 0 from congrArg Prod.snd HE.out]

theorem refround_any (V M : Nat → BitVec 32) (r : Int) (w : World) :
    Calls Try.prog 34 #[.agg (words 16 V), .agg (words 16 M), .int .i64 r] w fun e w' => e = .returned (.tuple #[.agg (words 16 (rSt V M r)), .int .i64 (rEr r)]) ∧ Keeps w w' [] := by
  by_cases h0 : r < 0
  · exact refround_bad0 V M r h0 w
  · by_cases h1 : 9 < r
    · exact refround_bad1 V M r h1 w
    · exact refround_good V M r (by omega) (by omega) w

theorem refunround_bad0 (V M : Nat → BitVec 32) (r : Int) (h : r < 0) (w : World) :
    Calls Try.prog 36 #[.agg (words 16 V), .agg (words 16 M), .int .i64 r] w fun e w' => e = .returned (.tuple #[.agg (words 16 (bSt V M r)), .int .i64 (rEr r)]) ∧ Keeps w w' [] := by
  have O := Own.start w []
  have HE := Lib.hid (show (bSt V M r, rEr r) = ((fun _ => 0 : Nat → BitVec 32), (1 : Int)) by unfold bSt rEr; rw [rOk_bad (by omega)]; rfl)
  go_enter Try.func36, Try.ntmps36
  go_wp2_with (first
    | (refine own_box 3 (words 16 V) O rfl rfl rfl rfl ?_; clear O; intro W a3 O; simp only [Act.put, List.setIfInBounds_toArray, List.set_cons_zero, List.set_cons_succ])
    | (refine own_box 4 (words 16 M) O rfl rfl rfl rfl ?_; clear O; intro W a4 O; simp only [Act.put, List.setIfInBounds_toArray, List.set_cons_zero, List.set_cons_succ])
    | (refine own_alloc 6 (words 16 fun _ => 0) O rfl rfl rfl (fun _ => by kernel_rfl) ?_; clear O; intro W a6 O; simp only [Act.put, List.setIfInBounds_toArray, List.set_cons_zero, List.set_cons_succ])
    | (refine wpList_const 19 (.agg (words 16 fun _ => 0)) rfl rfl (fun _ => by kernel_rfl) ?_; simp only [Act.put, List.setIfInBounds_toArray, List.set_cons_zero, List.set_cons_succ])
    | (refine own_store_row 0 (.tmp 6) (.tmp 19) O rfl rfl rfl rfl rfl rfl (by kernel_rfl) (by simp only [words_size]) (words_cell _ _) ?_; clear O; intro W O; simp only [List.set_cons_zero] at O))
  refine bodyPost_ret (v := .tuple #[.agg (words 16 fun _ => 0), .int .i64 1]) (results_cell_tmp rfl _ _ a6 23 _ _ rfl (O.get 0 rfl) Try.underlying23 rfl (by kernel_rfl) _ rfl) rfl ⟨?_, O.keep⟩
  rw [show bSt V M r = fun _ => 0 from congrArg Prod.fst HE.out, show rEr r = 1 from congrArg Prod.snd HE.out]

theorem refunround_bad1 (V M : Nat → BitVec 32) (r : Int) (h : 9 < r) (w : World) :
    Calls Try.prog 36 #[.agg (words 16 V), .agg (words 16 M), .int .i64 r] w fun e w' => e = .returned (.tuple #[.agg (words 16 (bSt V M r)), .int .i64 (rEr r)]) ∧ Keeps w w' [] := by
  have O := Own.start w []
  have HE := Lib.hid (show (bSt V M r, rEr r) = ((fun _ => 0 : Nat → BitVec 32), (1 : Int)) by unfold bSt rEr; rw [rOk_bad (by omega)]; rfl)
  have h0 : ¬ r < 0 := by omega
  go_enter Try.func36, Try.ntmps36
  go_wp2_with (first
    | (refine own_box 3 (words 16 V) O rfl rfl rfl rfl ?_; clear O; intro W a3 O; simp only [Act.put, List.setIfInBounds_toArray, List.set_cons_zero, List.set_cons_succ])
    | (refine own_box 4 (words 16 M) O rfl rfl rfl rfl ?_; clear O; intro W a4 O; simp only [Act.put, List.setIfInBounds_toArray, List.set_cons_zero, List.set_cons_succ])
    | (refine own_alloc 6 (words 16 fun _ => 0) O rfl rfl rfl (fun _ => by kernel_rfl) ?_; clear O; intro W a6 O; simp only [Act.put, List.setIfInBounds_toArray, List.set_cons_zero, List.set_cons_succ])
    | (refine wpList_const 19 (.agg (words 16 fun _ => 0)) rfl rfl (fun _ => by kernel_rfl) ?_; simp only [Act.put, List.setIfInBounds_toArray, List.set_cons_zero, List.set_cons_succ])
    | (refine own_store_row 0 (.tmp 6) (.tmp 19) O rfl rfl rfl rfl rfl rfl (by kernel_rfl) (by simp only [words_size]) (words_cell _ _) ?_; clear O; intro W O; simp only [List.set_cons_zero] at O))
  refine bodyPost_ret (v := .tuple #[.agg (words 16 fun _ => 0), .int .i64 1]) (results_cell_tmp rfl _ _ a6 23 _ _ rfl (O.get 0 rfl) Try.underlying23 rfl (by kernel_rfl) _ rfl) rfl ⟨?_, O.keep⟩
  rw [show bSt V M r = fun _ => 0 from congrArg Prod.fst HE.out, show rEr r = 1 from congrArg Prod.snd HE.out]

set_option maxHeartbeats 1000000 in
theorem refunround_good (V M : Nat → BitVec 32) (r : Int) (h0 : 0 ≤ r) (h1 : r ≤ 9) (w : World) :
    Calls Try.prog 36 #[.agg (words 16 V), .agg (words 16 M), .int .i64 r] w fun e w' => e = .returned (.tuple #[.agg (words 16 (bSt V M r)), .int .i64 (rEr r)]) ∧ Keeps w w' [] := by
  have O := Own.start w []
  have HE := Lib.hid (show (bSt V M r, rEr r) = (backV V M (row r), (0 : Int)) by unfold bSt rEr; rw [rOk_good ⟨h0, h1⟩]; rfl)
  have h2 : ¬ r < 0 := by omega
  have h3 : ¬ 9 < r := by omega
  have hq := row_lt r
  go_enter Try.func36, Try.ntmps36
  go_wp2_with (first
    | (refine own_box 3 (words 16 V) O rfl rfl rfl rfl ?_; clear O; intro W a3 O; simp only [Act.put, List.setIfInBounds_toArray, List.set_cons_zero, List.set_cons_succ])
    | (refine own_box 4 (words 16 M) O rfl rfl rfl rfl ?_; clear O; intro W a4 O; simp only [Act.put, List.setIfInBounds_toArray, List.set_cons_zero, List.set_cons_succ])
    | (refine own_alloc 6 (words 16 fun _ => 0) O rfl rfl rfl (fun _ => by kernel_rfl) ?_; clear O; intro W a6 O; simp only [Act.put, List.setIfInBounds_toArray, List.set_cons_zero, List.set_cons_succ]))
  go_loopw [8] (fun i wr => ∃ j : Nat, j ≤ 8 ∧ i = .int .i64 ((j : Int) - 1) ∧ Own w wr [] [(a6, 23, words 16 fun _ => 0), (a4, 23, words 16 M), (a3, 23, words 16 (bckK M (row r) V (8 - j)))]) (fun i _ => (intOf i + 1).toNat)
  case atStart => exact ⟨8, by omega, rfl, O⟩
  case round =>
    obtain ⟨j, hj, rfl, O⟩ := hrel
    cases j with
    | zero =>
      have hz : ¬ ((0 : Int) ≤ ((0 : Nat) : Int) - 1) := by omega
      go_wp2_with (first
        | (refine own_load 53 2 O rfl rfl rfl rfl rfl Try.underlying23 rfl (by kernel_rfl) ?_; simp only [Act.put, List.setIfInBounds_toArray, List.set_cons_zero, List.set_cons_succ])
        | (refine own_store_row 0 (.tmp 6) (.tmp 53) O rfl rfl rfl rfl rfl rfl (by kernel_rfl) (by simp only [words_size]) (words_cell _ _) ?_; clear O; intro W O; simp only [List.set_cons_zero] at O))
      refine bodyPost_ret (v := .tuple #[.agg (words 16 (backV V M (row r))), .int .i64 0]) (results_cell_tmp rfl _ _ a6 23 _ _ rfl (O.get 0 rfl) Try.underlying23 rfl (by kernel_rfl) _ rfl) rfl ⟨?_, O.keep⟩
      rw [show bSt V M r = backV V M (row r) from congrArg Prod.fst HE.out, show rEr r = 0 from congrArg Prod.snd HE.out]
    | succ k =>
      have e0 : ((k + 1 : Nat) : Int) - 1 = k := by omega
      rw [e0]
      clear e0
      have hlt : k < 8 := by omega
      have g1 : ((k : Int)) < 8 := by omega
      have g2 : (0 : Int) ≤ k := by omega
      have EB := Lib.hid (bck_step M V (row r) k hlt)
      have s0 := sig_lt (row r) (2 * k) hq (by omega)
      have s1 := sig_lt (row r) (2 * k + 1) hq (by omega)
      have m1 : IntKind.i64.wrap (2 * (k : Int)) = 2 * k := IntWalk.i64_in _ (by omega)
      have m2 : IntKind.i64.wrap (2 * (k : Int) + 1) = 2 * k + 1 := IntWalk.i64_in _ (by omega)
      have m3 : (0 : Int) ≤ 2 * k := by omega
      have m4 : (2 * (k : Int)).toNat = 2 * k := by omega
      have m5 : (2 * (k : Int) + 1).toNat = 2 * k + 1 := by omega
      have m6 : 2 * (k : Int) < 16 := by omega
      have m9 : 2 * k < 16 := by omega
      have m10 : 2 * k + 1 < 16 := by omega
      have m7 : 2 * (k : Int) + 1 < 16 := by omega
      have m8 : (0 : Int) ≤ 2 * k + 1 := by omega
      have HM := Lib.hid (And.intro m1 (And.intro m2 (And.intro m4 m5)))
      clear m1 m2 m4 m5
      go_wp2_with (go_at_call 56; refine (refour_any k hlt _).mono ?_; rintro e W ⟨rfl, rfl⟩)
      obtain ⟨m1, m2, m4, m5⟩ := HM.out
      have cM := Later.cell (O.get 1 rfl)
      refine wp_quiet_any (C := fun u => ∃ p : Later wr, u = p.1) 20 #[true, true, true, true, true, true, true, true, true, true, true, true, true, true, true, true, true, true, true, true, false, false, false] (by kernel_rfl) (by kernel_rfl) ⟨⟨wr.drew, (Keeps.refl wr []).drew⟩, rfl⟩ ?_
      simp only [List.take, List.drop]
      repeat (first
        | (refine wpQuiet_load 32 rfl rfl rfl rfl (Later.blk (O.get 2 rfl)) Try.underlying23 rfl (by kernel_rfl) ?_; simp only [Act.put, List.setIfInBounds_toArray, List.set_cons_zero, List.set_cons_succ])
        | go_big_quiet_step (first | (go_at_call 57; first | exact later_left (sigref_at _ _ (2 * k) (by omega) m9 _) | exact later_left (sigref_at _ _ (2 * k + 1) (by omega) m10 _)) | (go_at_call 17; exact later_of (refung_pl k hlt _ _ _ _))))
      refine wpQuiet_nil ?_
      intro _ hw
      obtain ⟨p, rfl⟩ := hw
      replace O := O.keeps p.2
      clear cM m1 m2 m4 m5
      generalize p.1 = W at O ⊢
      refine wpAny_take (i := 20) (v := .agg (words 16 (unmV (bckK M (row r) V (8 - (k + 1))) (pl k 0) (pl k 1) (pl k 2) (pl k 3) (M (sig (row r) (2 * k))) (M (sig (row r) (2 * k + 1)))))) rfl (by kernel_rfl) (by kernel_rfl) (by kernel_rfl) (fun _ _ _ h => h) (Or.inl ⟨by rfl, fun w => by go_simp; try rfl⟩) ?_
      simp only [Act.put, List.setIfInBounds_toArray, List.set_cons_zero, List.set_cons_succ]
      refine wpAny_take (i := 21) (v := .int .i64 0) rfl (by kernel_rfl) (by kernel_rfl) (by kernel_rfl) (fun _ _ _ h => h) (Or.inl ⟨by rfl, fun w => by go_simp; try rfl⟩) ?_
      simp only [Act.put, List.setIfInBounds_toArray, List.set_cons_zero, List.set_cons_succ]
      refine wpAny_last [_] 22 rfl (by kernel_rfl) ?_
      go_wp2_with (refine own_store_row 2 (.tmp 3) (.tmp 51) O rfl rfl rfl rfl rfl rfl (by kernel_rfl) (by simp only [words_size]) (words_cell _ _) ?_; clear O; intro W O; simp only [List.set_cons_zero, List.set_cons_succ] at O)
      go_roundw
      case rel => exact ⟨k, by omega, by go_num, by rw [EB.out]; exact O⟩
      case measure => (simp [intOf] <;> omega)

theorem refunround_any (V M : Nat → BitVec 32) (r : Int) (w : World) :
    Calls Try.prog 36 #[.agg (words 16 V), .agg (words 16 M), .int .i64 r] w fun e w' => e = .returned (.tuple #[.agg (words 16 (bSt V M r)), .int .i64 (rEr r)]) ∧ Keeps w w' [] := by
  by_cases h0 : r < 0
  · exact refunround_bad0 V M r h0 w
  · by_cases h1 : 9 < r
    · exact refunround_bad1 V M r h1 w
    · exact refunround_good V M r (by omega) (by omega) w
end Go.Proofs.Ytanibkocihjgjaa

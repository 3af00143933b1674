/-
  MixbBack: every round can be undone, both ways, and keeps states apart.
-/
import Derived.Test.YtainpnjddhabfaaRounds
import Derived.Test.YtainpnjddhabfaaInv
namespace Go.Proofs.Ytainpnjddhabfaa
open Go.ChangeShapes Go.WideShapes Go.ChangeAt Go.RowKit

theorem rSt_good (V M : Nat → BitVec 64) {r : Int} (h : 0 ≤ r ∧ r ≤ 11) : rSt V M r = roundB V M (row r) := by unfold rSt; rw [rOk_good h]; rfl
theorem bSt_good (V M : Nat → BitVec 64) {r : Int} (h : 0 ≤ r ∧ r ≤ 11) : bSt V M r = backB V M (row r) := by unfold bSt; rw [rOk_good h]; rfl
theorem rEr_good {r : Int} (h : 0 ≤ r ∧ r ≤ 11) : rEr r = 0 := by unfold rEr; rw [rOk_good h]; rfl

set_option maxHeartbeats 1000000 in
theorem back_walk (V1 V2 M : Nat → BitVec 64) (n : Int) (h0 : 0 ≤ n) (h1 : n ≤ 255) (w : World) : Calls Try.prog 8 #[.agg (words 16 V1), .agg (words 16 V2), .agg (words 16 M), .int .u8 n] w fun e w' => e = .returned (.bool true) ∧ Keeps w w' [] := by
  have O := Own.start w []
  have r1 : n.tmod 12 = n % 12 := Int.tmod_eq_emod_of_nonneg h0
  have r2 : 0 ≤ n % 12 ∧ n % 12 ≤ 11 := by omega
  have r3 : IntKind.u8.wrap (n % 12) = n % 12 := IntWalk.u8_in _ (by omega)
  have r4 : IntKind.i64.wrap (n % 12) = n % 12 := IntWalk.i64_in _ (by omega)
  have A := rEr_good r2
  have R1 := rSt_good V1 M r2
  have R2 := rSt_good V2 M r2
  have B1 := bSt_good V1 M r2
  have BR := bSt_good (rSt V1 M (n % 12)) M r2
  have RB := rSt_good (bSt V1 M (n % 12)) M r2
  rw [R1, back_round] at BR
  rw [B1, round_back] at RB
  have hq := round_apart V1 V2 M (row (n % 12))
  have c1 := fun w => round_any V1 M (n % 12) w
  have c2 := fun w => bback_any (rSt V1 M (n % 12)) M (n % 12) w
  have c3 := fun w => bback_any V1 M (n % 12) w
  have c4 := fun w => round_any (bSt V1 M (n % 12)) M (n % 12) w
  have c5 := fun w => round_any V2 M (n % 12) w
  simp only [R1, R2, B1, BR, RB, A, back_round, round_back] at c1 c2 c3 c4 c5
  have C1 := Lib.hid c1
  have C2 := Lib.hid c2
  have C3 := Lib.hid c3
  have C4 := Lib.hid c4
  have C5 := Lib.hid c5
  clear c1 c2 c3 c4 c5 A R1 R2 B1 BR RB
  generalize roundB V1 M (row (n % 12)) = X at *
  generalize roundB V2 M (row (n % 12)) = Y at *
  generalize backB V1 M (row (n % 12)) = Z at *
  have n1 := eqW_self 16 V1
  go_enter Try.func8, Try.ntmps8
  go_wp2_with (first
    | (refine own_box 4 (words 16 V1) O rfl rfl rfl rfl ?_; clear O; intro W a4 O; simp only [Act.put, List.setIfInBounds_toArray, List.set_cons_zero, List.set_cons_succ])
    | (refine own_box 5 (words 16 V2) O rfl rfl rfl rfl ?_; clear O; intro W a5 O; simp only [Act.put, List.setIfInBounds_toArray, List.set_cons_zero, List.set_cons_succ])
    | (refine own_box 6 (words 16 M) O rfl rfl rfl rfl ?_; clear O; intro W a6 O; simp only [Act.put, List.setIfInBounds_toArray, List.set_cons_zero, List.set_cons_succ])
    | (refine own_load 24 2 O rfl rfl rfl rfl rfl Try.underlying33 rfl (by kernel_rfl) ?_; simp only [Act.put, List.setIfInBounds_toArray, List.set_cons_zero, List.set_cons_succ])
    | (refine own_load 25 0 O rfl rfl rfl rfl rfl Try.underlying33 rfl (by kernel_rfl) ?_; simp only [Act.put, List.setIfInBounds_toArray, List.set_cons_zero, List.set_cons_succ])
    | (go_at_call 28; with_reducible refine Calls.mono (C1.out _) ?_; rintro e W ⟨rfl, K⟩; replace O := O.keeps K; clear K)
    | (refine own_alloc 10 (words 16 fun _ => 0) O rfl rfl rfl (fun _ => by kernel_rfl) ?_; clear O; intro W a10 O; simp only [Act.put, List.setIfInBounds_toArray, List.set_cons_zero, List.set_cons_succ])
    | (refine own_store_row 0 (.tmp 10) (.tmp 28) O rfl rfl rfl rfl rfl rfl (by kernel_rfl) (by simp only [words_size]) (words_cell _ _) ?_; clear O; intro W O; simp only [List.set_cons_zero, List.set_cons_succ] at O)
    | (refine own_load 31 0 O rfl rfl rfl rfl rfl Try.underlying33 rfl (by kernel_rfl) ?_; simp only [Act.put, List.setIfInBounds_toArray, List.set_cons_zero, List.set_cons_succ])
    | (refine own_load 32 1 O rfl rfl rfl rfl rfl Try.underlying33 rfl (by kernel_rfl) ?_; simp only [Act.put, List.setIfInBounds_toArray, List.set_cons_zero, List.set_cons_succ])
    | (go_at_call 29; with_reducible refine Calls.mono (C2.out _) ?_; rintro e W ⟨rfl, K⟩; replace O := O.keeps K; clear K)
    | (refine own_alloc 12 (words 16 fun _ => 0) O rfl rfl rfl (fun _ => by kernel_rfl) ?_; clear O; intro W a12 O; simp only [Act.put, List.setIfInBounds_toArray, List.set_cons_zero, List.set_cons_succ])
    | (refine own_store_row 0 (.tmp 12) (.tmp 35) O rfl rfl rfl rfl rfl rfl (by kernel_rfl) (by simp only [words_size]) (words_cell _ _) ?_; clear O; intro W O; simp only [List.set_cons_zero, List.set_cons_succ] at O)
    | (refine own_load 38 4 O rfl rfl rfl rfl rfl Try.underlying33 rfl (by kernel_rfl) ?_; simp only [Act.put, List.setIfInBounds_toArray, List.set_cons_zero, List.set_cons_succ])
    | (refine own_load 39 2 O rfl rfl rfl rfl rfl Try.underlying33 rfl (by kernel_rfl) ?_; simp only [Act.put, List.setIfInBounds_toArray, List.set_cons_zero, List.set_cons_succ])
    | (go_at_call 29; with_reducible refine Calls.mono (C3.out _) ?_; rintro e W ⟨rfl, K⟩; replace O := O.keeps K; clear K)
    | (refine own_alloc 14 (words 16 fun _ => 0) O rfl rfl rfl (fun _ => by kernel_rfl) ?_; clear O; intro W a14 O; simp only [Act.put, List.setIfInBounds_toArray, List.set_cons_zero, List.set_cons_succ])
    | (refine own_store_row 0 (.tmp 14) (.tmp 42) O rfl rfl rfl rfl rfl rfl (by kernel_rfl) (by simp only [words_size]) (words_cell _ _) ?_; clear O; intro W O; simp only [List.set_cons_zero, List.set_cons_succ] at O)
    | (refine own_load 45 0 O rfl rfl rfl rfl rfl Try.underlying33 rfl (by kernel_rfl) ?_; simp only [Act.put, List.setIfInBounds_toArray, List.set_cons_zero, List.set_cons_succ])
    | (refine own_load 46 3 O rfl rfl rfl rfl rfl Try.underlying33 rfl (by kernel_rfl) ?_; simp only [Act.put, List.setIfInBounds_toArray, List.set_cons_zero, List.set_cons_succ])
    | (go_at_call 28; with_reducible refine Calls.mono (C4.out _) ?_; rintro e W ⟨rfl, K⟩; replace O := O.keeps K; clear K)
    | (refine own_alloc 16 (words 16 fun _ => 0) O rfl rfl rfl (fun _ => by kernel_rfl) ?_; clear O; intro W a16 O; simp only [Act.put, List.setIfInBounds_toArray, List.set_cons_zero, List.set_cons_succ])
    | (refine own_store_row 0 (.tmp 16) (.tmp 49) O rfl rfl rfl rfl rfl rfl (by kernel_rfl) (by simp only [words_size]) (words_cell _ _) ?_; clear O; intro W O; simp only [List.set_cons_zero, List.set_cons_succ] at O)
    | (refine own_load 52 5 O rfl rfl rfl rfl rfl Try.underlying33 rfl (by kernel_rfl) ?_; simp only [Act.put, List.setIfInBounds_toArray, List.set_cons_zero, List.set_cons_succ])
    | (refine own_load 53 4 O rfl rfl rfl rfl rfl Try.underlying33 rfl (by kernel_rfl) ?_; simp only [Act.put, List.setIfInBounds_toArray, List.set_cons_zero, List.set_cons_succ])
    | (go_at_call 28; with_reducible refine Calls.mono (C5.out _) ?_; rintro e W ⟨rfl, K⟩; replace O := O.keeps K; clear K)
    | (refine own_alloc 18 (words 16 fun _ => 0) O rfl rfl rfl (fun _ => by kernel_rfl) ?_; clear O; intro W a18 O; simp only [Act.put, List.setIfInBounds_toArray, List.set_cons_zero, List.set_cons_succ])
    | (refine own_store_row 0 (.tmp 18) (.tmp 56) O rfl rfl rfl rfl rfl rfl (by kernel_rfl) (by simp only [words_size]) (words_cell _ _) ?_; clear O; intro W O; simp only [List.set_cons_zero, List.set_cons_succ] at O))
  refine wp_region_quiet (C := fun u => ∃ n, u = World.drewN _ n) (by kernel_rfl) (by kernel_rfl) ⟨1, rfl⟩ ?_
  repeat (first
    | (refine wpQuiet_load 76 rfl rfl rfl rfl (drawn_blk (O.get 3 rfl)) Try.underlying33 rfl (by kernel_rfl) ?_; simp only [Act.put, List.setIfInBounds_toArray, List.set_cons_zero, List.set_cons_succ])
    | (refine wpQuiet_load 77 rfl rfl rfl rfl (drawn_blk (O.get 7 rfl)) Try.underlying33 rfl (by kernel_rfl) ?_; simp only [Act.put, List.setIfInBounds_toArray, List.set_cons_zero, List.set_cons_succ])
    | (refine wpQuiet_load 80 rfl rfl rfl rfl (drawn_blk (O.get 1 rfl)) Try.underlying33 rfl (by kernel_rfl) ?_; simp only [Act.put, List.setIfInBounds_toArray, List.set_cons_zero, List.set_cons_succ])
    | (refine wpQuiet_load 81 rfl rfl rfl rfl (drawn_blk (O.get 7 rfl)) Try.underlying33 rfl (by kernel_rfl) ?_; simp only [Act.put, List.setIfInBounds_toArray, List.set_cons_zero, List.set_cons_succ])
    | (refine wpQuiet_load 85 rfl rfl rfl rfl (drawn_blk (O.get 4 rfl)) Try.underlying33 rfl (by kernel_rfl) ?_; simp only [Act.put, List.setIfInBounds_toArray, List.set_cons_zero, List.set_cons_succ])
    | (refine wpQuiet_load 86 rfl rfl rfl rfl (drawn_blk (O.get 0 rfl)) Try.underlying33 rfl (by kernel_rfl) ?_; simp only [Act.put, List.setIfInBounds_toArray, List.set_cons_zero, List.set_cons_succ])
    | (refine wpQuiet_load 88 rfl rfl rfl rfl (drawn_blk (O.get 7 rfl)) Try.underlying33 rfl (by kernel_rfl) ?_; simp only [Act.put, List.setIfInBounds_toArray, List.set_cons_zero, List.set_cons_succ])
    | (refine wpQuiet_load 89 rfl rfl rfl rfl (drawn_blk (O.get 6 rfl)) Try.underlying33 rfl (by kernel_rfl) ?_; simp only [Act.put, List.setIfInBounds_toArray, List.set_cons_zero, List.set_cons_succ])
    | go_big_quiet_step (fail))
  refine wpQuiet_nil ?_
  intro _ hw
  obtain ⟨n0, rfl⟩ := hw
  replace O := O.drewN n0
  go_wp2
  go_ret
  exact ⟨rfl, O.keep⟩

set_option maxRecDepth 100000 in
theorem back_lifted (os : Os) (started : os.Started) (H : Type) (enc : TypeId × Value → H) :
    ReturnsInHanded {} Try.checked os 8 .any (Rows.mixbBackSpec.pre6 enc Try.prog Try.f8 Rows.mixbBackRow.domain false) (Rows.mixbBackSpec.post enc Try.prog Try.f8 false true false false) := by
  refine law_lifted (C := Try.checked) own started (by kernel_rfl) Try.func8 rfl (fun ds h => ?_) rfl Try.underlying4 laid ?_
    (ChangeSpec.witness6 (enc := enc) (C := Try.checked) false ⟨#[], #[.agg #[.int .u64 0, .int .u64 0, .int .u64 0, .int .u64 0, .int .u64 0, .int .u64 0, .int .u64 0, .int .u64 0, .int .u64 0, .int .u64 0, .int .u64 0, .int .u64 0, .int .u64 0, .int .u64 0, .int .u64 0, .int .u64 0], .agg #[.int .u64 0, .int .u64 0, .int .u64 0, .int .u64 0, .int .u64 0, .int .u64 0, .int .u64 0, .int .u64 0, .int .u64 0, .int .u64 0, .int .u64 0, .int .u64 0, .int .u64 0, .int .u64 0, .int .u64 0, .int .u64 0], .agg #[.int .u64 0, .int .u64 0, .int .u64 0, .int .u64 0, .int .u64 0, .int .u64 0, .int .u64 0, .int .u64 0, .int .u64 0, .int .u64 0, .int .u64 0, .int .u64 0, .int .u64 0, .int .u64 0, .int .u64 0, .int .u64 0], .int .u8 0], []⟩ 8 (by kernel_rfl) (by kernel_rfl) (by kernel_rfl) (by kernel_rfl)) ?_
  · match ds, h with
    | [d0, d1, d2, d3], _ => exact ⟨rfl, rfl, rfl⟩
  · intro t ht
    have ht' : t ∈ ([33, 33, 33, 5] : List TypeId) := ht
    simp only [List.mem_cons, List.not_mem_nil, or_false] at ht'
    rcases ht' with rfl | rfl | rfl | rfl
    all_goals exact ⟨by kernel_rfl, of_decide_eq_true (by kernel_rfl)⟩
  · intro W base args ds ps hval hA hlt hfz hsz
    have hA' : DataW.TrodAll enc Try.prog W 0 (fun _ => true) true [33, 33, 33, 5] args.toList ds ps := hA
    clear hA
    obtain ⟨v0, v1, v2, v3, d0, d1, d2, d3, p0, p1, p2, p3, hargs, rfl, rfl, h0, h1, h2, h3⟩ := trodAll_four hA'
    obtain rfl : args = #[v0, v1, v2, v3] := by cases args; simp_all
    obtain ⟨V1, rfl⟩ := open_w16 (hval 0 33 v0 rfl rfl)
    obtain ⟨V2, rfl⟩ := open_w16 (hval 1 33 v1 rfl rfl)
    obtain ⟨M, rfl⟩ := open_w16 (hval 2 33 v2 rfl rfl)
    obtain ⟨r, rfl, rfl, rfl, wr⟩ := open_int Try.underlying5 (hval 3 5 v3 rfl rfl) h3
    have wr' : 0 ≤ r ∧ r ≤ 255 := by have h := wr; simp [Lit.wf] at h; exact h
    exact (back_walk V1 V2 M r wr'.1 wr'.2 W).mono fun e W' ⟨he, hk⟩ => ⟨he, hk.below⟩

theorem back_holds : Rows.MixbBackSaid :=
  OpenClaim.holds_of_wide 8 Try.f8 rfl rfl rfl rfl rfl rfl rfl ⟨rfl, rfl, rfl, rfl, rfl⟩ rfl rfl rfl rfl rfl (by kernel_rfl) Try.func8 (by kernel_rfl)
    (of_decide_eq_true (by kernel_rfl)) (by unfold Func.isWrapper; rw [if_neg (of_decide_eq_false (by kernel_rfl))]; exact ⟨rfl, rfl⟩)
    (fun os started H enc _ => back_lifted os started H enc)
end Go.Proofs.Ytainpnjddhabfaa

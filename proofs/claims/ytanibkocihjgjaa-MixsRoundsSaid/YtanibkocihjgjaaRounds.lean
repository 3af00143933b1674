/-
  MixsRounds: Round and Unround of mixs are the reference's, for every state, message and number; the law returns true for every input.
-/
import Derived.Test.YtanibkocihjgjaaS6
namespace Go.Proofs.Ytanibkocihjgjaa
open Go.ChangeShapes Go.WideShapes Go.ChangeAt Go.RowKit

set_option maxHeartbeats 1000000 in
theorem rounds_walk (V M : Nat → BitVec 32) (a b c d : Int) (x y : BitVec 32) (r : Int) (w : World) : Calls Try.prog 7 #[.agg (putC V M a b c d x y r)] w fun e w' => e = .returned (.bool true) ∧ Keeps w w' [] := by
  have O := Own.start w []
  have G1 := Lib.hid fun w => round_any V M r w
  have G2 := Lib.hid fun w => refround_any V M r w
  have G3 := Lib.hid fun w => unround_any V M r w
  have G4 := Lib.hid fun w => refunround_any V M r w
  generalize rSt V M r = R at *
  generalize bSt V M r = U at *
  generalize rEr r = E at *
  have n1 := eqW_self 16 R
  have n2 := eqW_self 16 U
  go_enter Try.func7, Try.ntmps7
  go_wp2_with (first
    | (refine own_box 1 (putC V M a b c d x y r) O rfl rfl rfl rfl ?_; clear O; intro W a1 O; simp only [Act.put, List.setIfInBounds_toArray, List.set_cons_zero, List.set_cons_succ]; have q32 : W.cell? ⟨a1, 32, none⟩ = some (.int .i64 a) := ((O.get 0 rfl).cell 32).trans (putC_r V M a b c d x y r 0); have q33 : W.cell? ⟨a1, 33, none⟩ = some (.int .i64 b) := ((O.get 0 rfl).cell 33).trans (putC_r V M a b c d x y r 1); have q34 : W.cell? ⟨a1, 34, none⟩ = some (.int .i64 c) := ((O.get 0 rfl).cell 34).trans (putC_r V M a b c d x y r 2); have q35 : W.cell? ⟨a1, 35, none⟩ = some (.int .i64 d) := ((O.get 0 rfl).cell 35).trans (putC_r V M a b c d x y r 3); have q36 : W.cell? ⟨a1, 36, none⟩ = some (U32 x) := ((O.get 0 rfl).cell 36).trans (putC_r V M a b c d x y r 4); have q37 : W.cell? ⟨a1, 37, none⟩ = some (U32 y) := ((O.get 0 rfl).cell 37).trans (putC_r V M a b c d x y r 5); have q38 : W.cell? ⟨a1, 38, none⟩ = some (.int .i64 r) := ((O.get 0 rfl).cell 38).trans (putC_r V M a b c d x y r 6))
    | (refine own_load_part (part := words 16 V) 9 0 O rfl rfl rfl rfl rfl Try.underlying23 rfl (by kernel_rfl) ?_ ?_; (exact fun j hj => putC_V V M a b c d x y r j (by simpa [words_size] using hj)); simp only [Act.put, List.setIfInBounds_toArray, List.set_cons_zero, List.set_cons_succ])
    | (refine own_load_part (part := words 16 M) 11 0 O rfl rfl rfl rfl rfl Try.underlying23 rfl (by kernel_rfl) ?_ ?_; (exact fun j hj => putC_M V M a b c d x y r j (by simpa [words_size] using hj)); simp only [Act.put, List.setIfInBounds_toArray, List.set_cons_zero, List.set_cons_succ])
    | (go_at_call 33; with_reducible refine Calls.mono (G1.out _) ?_; rintro e W ⟨rfl, K⟩; replace O := O.keeps K; clear K; clear q32 q33 q34 q35 q36 q37 q38)
    | (refine own_alloc 3 (words 16 fun _ => 0) O rfl rfl rfl (fun _ => by kernel_rfl) ?_; clear O; intro W a3 O; simp only [Act.put, List.setIfInBounds_toArray, List.set_cons_zero, List.set_cons_succ])
    | (refine own_store_row 0 (.tmp 3) (.tmp 15) O rfl rfl rfl rfl rfl rfl (by kernel_rfl) (by simp only [words_size]) (words_cell _ _) ?_; clear O; intro W O; simp only [List.set_cons_zero] at O; have q32 : W.cell? ⟨a1, 32, none⟩ = some (.int .i64 a) := ((O.get 1 rfl).cell 32).trans (putC_r V M a b c d x y r 0); have q33 : W.cell? ⟨a1, 33, none⟩ = some (.int .i64 b) := ((O.get 1 rfl).cell 33).trans (putC_r V M a b c d x y r 1); have q34 : W.cell? ⟨a1, 34, none⟩ = some (.int .i64 c) := ((O.get 1 rfl).cell 34).trans (putC_r V M a b c d x y r 2); have q35 : W.cell? ⟨a1, 35, none⟩ = some (.int .i64 d) := ((O.get 1 rfl).cell 35).trans (putC_r V M a b c d x y r 3); have q36 : W.cell? ⟨a1, 36, none⟩ = some (U32 x) := ((O.get 1 rfl).cell 36).trans (putC_r V M a b c d x y r 4); have q37 : W.cell? ⟨a1, 37, none⟩ = some (U32 y) := ((O.get 1 rfl).cell 37).trans (putC_r V M a b c d x y r 5); have q38 : W.cell? ⟨a1, 38, none⟩ = some (.int .i64 r) := ((O.get 1 rfl).cell 38).trans (putC_r V M a b c d x y r 6))
    | (refine own_load_part (part := words 16 V) 19 1 O rfl rfl rfl rfl rfl Try.underlying23 rfl (by kernel_rfl) ?_ ?_; (exact fun j hj => putC_V V M a b c d x y r j (by simpa [words_size] using hj)); simp only [Act.put, List.setIfInBounds_toArray, List.set_cons_zero, List.set_cons_succ])
    | (refine own_load_part (part := words 16 M) 21 1 O rfl rfl rfl rfl rfl Try.underlying23 rfl (by kernel_rfl) ?_ ?_; (exact fun j hj => putC_M V M a b c d x y r j (by simpa [words_size] using hj)); simp only [Act.put, List.setIfInBounds_toArray, List.set_cons_zero, List.set_cons_succ])
    | (go_at_call 34; with_reducible refine Calls.mono (G2.out _) ?_; rintro e W ⟨rfl, K⟩; replace O := O.keeps K; clear K; clear q32 q33 q34 q35 q36 q37 q38)
    | (refine own_alloc 5 (words 16 fun _ => 0) O rfl rfl rfl (fun _ => by kernel_rfl) ?_; clear O; intro W a5 O; simp only [Act.put, List.setIfInBounds_toArray, List.set_cons_zero, List.set_cons_succ])
    | (refine own_store_row 0 (.tmp 5) (.tmp 25) O rfl rfl rfl rfl rfl rfl (by kernel_rfl) (by simp only [words_size]) (words_cell _ _) ?_; clear O; intro W O; simp only [List.set_cons_zero] at O; have q32 : W.cell? ⟨a1, 32, none⟩ = some (.int .i64 a) := ((O.get 2 rfl).cell 32).trans (putC_r V M a b c d x y r 0); have q33 : W.cell? ⟨a1, 33, none⟩ = some (.int .i64 b) := ((O.get 2 rfl).cell 33).trans (putC_r V M a b c d x y r 1); have q34 : W.cell? ⟨a1, 34, none⟩ = some (.int .i64 c) := ((O.get 2 rfl).cell 34).trans (putC_r V M a b c d x y r 2); have q35 : W.cell? ⟨a1, 35, none⟩ = some (.int .i64 d) := ((O.get 2 rfl).cell 35).trans (putC_r V M a b c d x y r 3); have q36 : W.cell? ⟨a1, 36, none⟩ = some (U32 x) := ((O.get 2 rfl).cell 36).trans (putC_r V M a b c d x y r 4); have q37 : W.cell? ⟨a1, 37, none⟩ = some (U32 y) := ((O.get 2 rfl).cell 37).trans (putC_r V M a b c d x y r 5); have q38 : W.cell? ⟨a1, 38, none⟩ = some (.int .i64 r) := ((O.get 2 rfl).cell 38).trans (putC_r V M a b c d x y r 6))
    | (refine own_load_w 31 1 O rfl rfl rfl rfl rfl Try.underlying23 rfl (by kernel_rfl) ?_; simp only [Act.put, List.setIfInBounds_toArray, List.set_cons_zero, List.set_cons_succ])
    | (refine own_load_w 32 0 O rfl rfl rfl rfl rfl Try.underlying23 rfl (by kernel_rfl) ?_; simp only [Act.put, List.setIfInBounds_toArray, List.set_cons_zero, List.set_cons_succ])
    | (refine own_load_part (part := words 16 V) 37 2 O rfl rfl rfl rfl rfl Try.underlying23 rfl (by kernel_rfl) ?_ ?_; (exact fun j hj => putC_V V M a b c d x y r j (by simpa [words_size] using hj)); simp only [Act.put, List.setIfInBounds_toArray, List.set_cons_zero, List.set_cons_succ])
    | (refine own_load_part (part := words 16 M) 39 2 O rfl rfl rfl rfl rfl Try.underlying23 rfl (by kernel_rfl) ?_ ?_; (exact fun j hj => putC_M V M a b c d x y r j (by simpa [words_size] using hj)); simp only [Act.put, List.setIfInBounds_toArray, List.set_cons_zero, List.set_cons_succ])
    | (go_at_call 35; with_reducible refine Calls.mono (G3.out _) ?_; rintro e W ⟨rfl, K⟩; replace O := O.keeps K; clear K; clear q32 q33 q34 q35 q36 q37 q38)
    | (refine own_store_row 1 (.tmp 3) (.tmp 43) O rfl rfl rfl rfl rfl rfl (by kernel_rfl) (by simp only [words_size]) (words_cell _ _) ?_; clear O; intro W O; simp only [List.set_cons_zero, List.set_cons_succ] at O; have q32 : W.cell? ⟨a1, 32, none⟩ = some (.int .i64 a) := ((O.get 2 rfl).cell 32).trans (putC_r V M a b c d x y r 0); have q33 : W.cell? ⟨a1, 33, none⟩ = some (.int .i64 b) := ((O.get 2 rfl).cell 33).trans (putC_r V M a b c d x y r 1); have q34 : W.cell? ⟨a1, 34, none⟩ = some (.int .i64 c) := ((O.get 2 rfl).cell 34).trans (putC_r V M a b c d x y r 2); have q35 : W.cell? ⟨a1, 35, none⟩ = some (.int .i64 d) := ((O.get 2 rfl).cell 35).trans (putC_r V M a b c d x y r 3); have q36 : W.cell? ⟨a1, 36, none⟩ = some (U32 x) := ((O.get 2 rfl).cell 36).trans (putC_r V M a b c d x y r 4); have q37 : W.cell? ⟨a1, 37, none⟩ = some (U32 y) := ((O.get 2 rfl).cell 37).trans (putC_r V M a b c d x y r 5); have q38 : W.cell? ⟨a1, 38, none⟩ = some (.int .i64 r) := ((O.get 2 rfl).cell 38).trans (putC_r V M a b c d x y r 6))
    | (refine own_load_part (part := words 16 V) 47 2 O rfl rfl rfl rfl rfl Try.underlying23 rfl (by kernel_rfl) ?_ ?_; (exact fun j hj => putC_V V M a b c d x y r j (by simpa [words_size] using hj)); simp only [Act.put, List.setIfInBounds_toArray, List.set_cons_zero, List.set_cons_succ])
    | (refine own_load_part (part := words 16 M) 49 2 O rfl rfl rfl rfl rfl Try.underlying23 rfl (by kernel_rfl) ?_ ?_; (exact fun j hj => putC_M V M a b c d x y r j (by simpa [words_size] using hj)); simp only [Act.put, List.setIfInBounds_toArray, List.set_cons_zero, List.set_cons_succ])
    | (go_at_call 36; with_reducible refine Calls.mono (G4.out _) ?_; rintro e W ⟨rfl, K⟩; replace O := O.keeps K; clear K; clear q32 q33 q34 q35 q36 q37 q38)
    | (refine own_store_row 0 (.tmp 5) (.tmp 53) O rfl rfl rfl rfl rfl rfl (by kernel_rfl) (by simp only [words_size]) (words_cell _ _) ?_; clear O; intro W O; simp only [List.set_cons_zero] at O; have q32 : W.cell? ⟨a1, 32, none⟩ = some (.int .i64 a) := ((O.get 2 rfl).cell 32).trans (putC_r V M a b c d x y r 0); have q33 : W.cell? ⟨a1, 33, none⟩ = some (.int .i64 b) := ((O.get 2 rfl).cell 33).trans (putC_r V M a b c d x y r 1); have q34 : W.cell? ⟨a1, 34, none⟩ = some (.int .i64 c) := ((O.get 2 rfl).cell 34).trans (putC_r V M a b c d x y r 2); have q35 : W.cell? ⟨a1, 35, none⟩ = some (.int .i64 d) := ((O.get 2 rfl).cell 35).trans (putC_r V M a b c d x y r 3); have q36 : W.cell? ⟨a1, 36, none⟩ = some (U32 x) := ((O.get 2 rfl).cell 36).trans (putC_r V M a b c d x y r 4); have q37 : W.cell? ⟨a1, 37, none⟩ = some (U32 y) := ((O.get 2 rfl).cell 37).trans (putC_r V M a b c d x y r 5); have q38 : W.cell? ⟨a1, 38, none⟩ = some (.int .i64 r) := ((O.get 2 rfl).cell 38).trans (putC_r V M a b c d x y r 6))
    | (refine own_load_w 59 1 O rfl rfl rfl rfl rfl Try.underlying23 rfl (by kernel_rfl) ?_; simp only [Act.put, List.setIfInBounds_toArray, List.set_cons_zero, List.set_cons_succ])
    | (refine own_load_w 60 0 O rfl rfl rfl rfl rfl Try.underlying23 rfl (by kernel_rfl) ?_; simp only [Act.put, List.setIfInBounds_toArray, List.set_cons_zero, List.set_cons_succ]))
  go_ret
  exact ⟨rfl, O.keep⟩

set_option maxRecDepth 100000 in
theorem rounds_lifted (os : Os) (started : os.Started) (H : Type) (enc : TypeId × Value → H) :
    ReturnsInHanded {} Try.checked os 7 .any (Rows.mixsRoundsSpec.pre6 enc Try.prog Try.f7 Rows.mixsRoundsRow.domain false) (Rows.mixsRoundsSpec.post enc Try.prog Try.f7 false true false false) := by
  refine law_lifted (C := Try.checked) own started (by kernel_rfl) Try.func7 rfl (fun ds h => ?_) rfl Try.underlying4 laid ?_
    (ChangeSpec.witness6 (enc := enc) (C := Try.checked) false ⟨#[], #[.agg #[.int .u32 0, .int .u32 0, .int .u32 0, .int .u32 0, .int .u32 0, .int .u32 0, .int .u32 0, .int .u32 0, .int .u32 0, .int .u32 0, .int .u32 0, .int .u32 0, .int .u32 0, .int .u32 0, .int .u32 0, .int .u32 0, .int .u32 0, .int .u32 0, .int .u32 0, .int .u32 0, .int .u32 0, .int .u32 0, .int .u32 0, .int .u32 0, .int .u32 0, .int .u32 0, .int .u32 0, .int .u32 0, .int .u32 0, .int .u32 0, .int .u32 0, .int .u32 0, .int .i64 0, .int .i64 0, .int .i64 0, .int .i64 0, .int .u32 0, .int .u32 0, .int .i64 0]], []⟩ 8 (by kernel_rfl) (by kernel_rfl) (by kernel_rfl) (by kernel_rfl)) ?_
  · match ds, h with
    | [d], _ => exact ⟨rfl, rfl, rfl⟩
  · intro t ht
    have ht' : t ∈ ([25] : List TypeId) := ht
    simp only [List.mem_cons, List.not_mem_nil, or_false] at ht'
    subst ht'
    exact ⟨by kernel_rfl, of_decide_eq_true (by kernel_rfl)⟩
  · intro W base args ds ps hval hA hlt hfz hsz
    have hA' : DataW.TrodAll enc Try.prog W 0 (fun _ => true) true [25] args.toList ds ps := hA
    clear hA
    obtain ⟨v0, d0, hargs, hds, h0⟩ := trodAll_one hA'
    subst hargs
    obtain ⟨V, M, a, b, c, d, x, y, r, rfl⟩ := open_put (hval 0 25 v0 rfl rfl)
    exact (rounds_walk V M a b c d x y r W).mono fun e W' ⟨he, hk⟩ => ⟨he, hk.below⟩

theorem rounds_holds : Rows.MixsRoundsSaid :=
  OpenClaim.holds_of_wide 7 Try.f7 rfl rfl rfl rfl rfl rfl rfl ⟨rfl, rfl, rfl, rfl, rfl⟩ rfl rfl rfl rfl rfl (by kernel_rfl) Try.func7 (by kernel_rfl)
    (of_decide_eq_true (by kernel_rfl)) (by unfold Func.isWrapper; rw [if_neg (of_decide_eq_false (by kernel_rfl))]; exact ⟨rfl, rfl⟩)
    (fun os started H enc _ => rounds_lifted os started H enc)
end Go.Proofs.Ytanibkocihjgjaa

/-
  MixsRuns: Begin, End and F of mixs are the reference's; the law returns true for every input.
-/
import Derived.Test.YtanibkocihjgjaaS7
namespace Go.Proofs.Ytanibkocihjgjaa
open Go.ChangeShapes Go.WideShapes Go.ChangeAt Go.RowKit

theorem open_w16 {w : World} {b : Nat} {v : Value} (h : Value.okWide Try.prog w .any b 23 v) : ∃ V : Nat → BitVec 32, v = .agg (words 16 V) :=
  open_words (n := 16) Try.underlying23 Try.underlying22 (ts := List.replicate 16 22) (by kernel_rfl) rfl (by kernel_rfl) (fun u hu => List.eq_of_mem_replicate hu) h

set_option maxHeartbeats 1000000 in
theorem runs_walk (H M : Nat → BitVec 32) (n : BitVec 64) (last node : Bool) (V : Nat → BitVec 32) (w : World) : Calls Try.prog 8 #[.agg (runC H M n last node), .agg (words 16 V)] w fun e w' => e = .returned (.bool true) ∧ Keeps w w' [] := by
  have O := Own.start w []
  have C1 := Lib.hid fun w => begin_any H n last node w
  have C2 := Lib.hid fun w => refbegin_any H n last node w
  have C3 := Lib.hid fun w => end_any H V w
  have C4 := Lib.hid fun w => refend_any H V w
  have C5 := Lib.hid fun w => f_any H M n last node w
  have C6 := Lib.hid fun w => reff_any H M n last node w
  generalize fV H M n last node = R at *
  generalize begV H n last node = B at *
  generalize endV H V = E at *
  have n1 := eqW_self 8 R
  have n2 := eqW_self 16 B
  have n3 := eqW_self 8 E
  go_enter Try.func8, Try.ntmps8
  go_wp2_with (first
    | (refine own_box 2 (runC H M n last node) O rfl rfl rfl rfl ?_; clear O; intro W a2 O; simp only [Act.put, List.setIfInBounds_toArray, List.set_cons_zero, List.set_cons_succ])
    | (refine own_box 3 (words 16 V) O rfl rfl rfl rfl ?_; clear O; intro W a3 O; simp only [Act.put, List.setIfInBounds_toArray, List.set_cons_zero, List.set_cons_succ]))
  have lc := Later.cell (O.get 1 rfl)
  have c24 : ∀ p : Later W, p.1.cell? ⟨a2, 24, none⟩ = some (U64 n) := fun p => (lc p 24).trans (runC_r H M n last node 0)
  have c25 : ∀ p : Later W, p.1.cell? ⟨a2, 25, none⟩ = some (.bool last) := fun p => (lc p 25).trans (runC_r H M n last node 1)
  have c26 : ∀ p : Later W, p.1.cell? ⟨a2, 26, none⟩ = some (.bool node) := fun p => (lc p 26).trans (runC_r H M n last node 2)
  clear lc
  refine wp_quiet_later (by kernel_rfl) (by kernel_rfl) ?_
  repeat (first
    | (refine wpQuiet_load_part (part := words 8 H) 6 rfl rfl rfl rfl (Later.blk (O.get 1 rfl)) Try.underlying33 rfl (by kernel_rfl) ?_ ?_; (exact fun j hj => runC_H H M n last node j (by simpa [words_size] using hj)); simp only [Act.put, List.setIfInBounds_toArray, List.set_cons_zero, List.set_cons_succ])
    | (refine wpQuiet_load_part (part := words 8 H) 15 rfl rfl rfl rfl (Later.blk (O.get 1 rfl)) Try.underlying33 rfl (by kernel_rfl) ?_ ?_; (exact fun j hj => runC_H H M n last node j (by simpa [words_size] using hj)); simp only [Act.put, List.setIfInBounds_toArray, List.set_cons_zero, List.set_cons_succ])
    | go_big_quiet_step (first | (go_at_call 37; exact later_of (C1.out _)) | (go_at_call 38; exact later_of (C2.out _))))
  refine wpQuiet_nil ?_
  intro _ hw
  obtain ⟨pW1, rfl⟩ := hw
  replace O := O.keeps pW1.2
  clear c24 c25 c26
  generalize pW1.1 = W1 at O ⊢
  go_wp2
  have lc := Later.cell (O.get 1 rfl)
  have c24 : ∀ p : Later W1, p.1.cell? ⟨a2, 24, none⟩ = some (U64 n) := fun p => (lc p 24).trans (runC_r H M n last node 0)
  have c25 : ∀ p : Later W1, p.1.cell? ⟨a2, 25, none⟩ = some (.bool last) := fun p => (lc p 25).trans (runC_r H M n last node 1)
  have c26 : ∀ p : Later W1, p.1.cell? ⟨a2, 26, none⟩ = some (.bool node) := fun p => (lc p 26).trans (runC_r H M n last node 2)
  clear lc
  refine wp_quiet_later (by kernel_rfl) (by kernel_rfl) ?_
  repeat (first
    | (refine wpQuiet_load_part (part := words 8 H) 25 rfl rfl rfl rfl (Later.blk (O.get 1 rfl)) Try.underlying33 rfl (by kernel_rfl) ?_ ?_; (exact fun j hj => runC_H H M n last node j (by simpa [words_size] using hj)); simp only [Act.put, List.setIfInBounds_toArray, List.set_cons_zero, List.set_cons_succ])
    | (refine wpQuiet_load_part (part := words 8 H) 29 rfl rfl rfl rfl (Later.blk (O.get 1 rfl)) Try.underlying33 rfl (by kernel_rfl) ?_ ?_; (exact fun j hj => runC_H H M n last node j (by simpa [words_size] using hj)); simp only [Act.put, List.setIfInBounds_toArray, List.set_cons_zero, List.set_cons_succ])
    | (refine wpQuiet_load 26 rfl rfl rfl rfl (Later.blk (O.get 0 rfl)) Try.underlying23 rfl (by kernel_rfl) ?_; simp only [Act.put, List.setIfInBounds_toArray, List.set_cons_zero, List.set_cons_succ])
    | (refine wpQuiet_load 30 rfl rfl rfl rfl (Later.blk (O.get 0 rfl)) Try.underlying23 rfl (by kernel_rfl) ?_; simp only [Act.put, List.setIfInBounds_toArray, List.set_cons_zero, List.set_cons_succ])
    | go_big_quiet_step (first | (go_at_call 39; exact later_of (C3.out _)) | (go_at_call 40; exact later_of (C4.out _))))
  refine wpQuiet_nil ?_
  intro _ hw
  obtain ⟨pW3, rfl⟩ := hw
  replace O := O.keeps pW3.2
  clear c24 c25 c26
  generalize pW3.1 = W3 at O ⊢
  go_wp2
  have lc := Later.cell (O.get 1 rfl)
  have c24 : ∀ p : Later W3, p.1.cell? ⟨a2, 24, none⟩ = some (U64 n) := fun p => (lc p 24).trans (runC_r H M n last node 0)
  have c25 : ∀ p : Later W3, p.1.cell? ⟨a2, 25, none⟩ = some (.bool last) := fun p => (lc p 25).trans (runC_r H M n last node 1)
  have c26 : ∀ p : Later W3, p.1.cell? ⟨a2, 26, none⟩ = some (.bool node) := fun p => (lc p 26).trans (runC_r H M n last node 2)
  clear lc
  refine wp_quiet_later (by kernel_rfl) (by kernel_rfl) ?_
  repeat (first
    | (refine wpQuiet_load_part (part := words 8 H) 34 rfl rfl rfl rfl (Later.blk (O.get 1 rfl)) Try.underlying33 rfl (by kernel_rfl) ?_ ?_; (exact fun j hj => runC_H H M n last node j (by simpa [words_size] using hj)); simp only [Act.put, List.setIfInBounds_toArray, List.set_cons_zero, List.set_cons_succ])
    | (refine wpQuiet_load_part (part := words 8 H) 45 rfl rfl rfl rfl (Later.blk (O.get 1 rfl)) Try.underlying33 rfl (by kernel_rfl) ?_ ?_; (exact fun j hj => runC_H H M n last node j (by simpa [words_size] using hj)); simp only [Act.put, List.setIfInBounds_toArray, List.set_cons_zero, List.set_cons_succ])
    | (refine wpQuiet_load_part (part := words 16 M) 36 rfl rfl rfl rfl (Later.blk (O.get 1 rfl)) Try.underlying23 rfl (by kernel_rfl) ?_ ?_; (exact fun j hj => runC_M H M n last node j (by simpa [words_size] using hj)); simp only [Act.put, List.setIfInBounds_toArray, List.set_cons_zero, List.set_cons_succ])
    | (refine wpQuiet_load_part (part := words 16 M) 47 rfl rfl rfl rfl (Later.blk (O.get 1 rfl)) Try.underlying23 rfl (by kernel_rfl) ?_ ?_; (exact fun j hj => runC_M H M n last node j (by simpa [words_size] using hj)); simp only [Act.put, List.setIfInBounds_toArray, List.set_cons_zero, List.set_cons_succ])
    | go_big_quiet_step (first | (go_at_call 41; exact later_of (C5.out _)) | (go_at_call 42; exact later_of (C6.out _))))
  refine wpQuiet_nil ?_
  intro _ hw
  obtain ⟨pW5, rfl⟩ := hw
  replace O := O.keeps pW5.2
  clear c24 c25 c26
  generalize pW5.1 = W5 at O ⊢
  go_wp2
  go_ret
  exact ⟨rfl, O.keep⟩

set_option maxRecDepth 100000 in
theorem runs_lifted (os : Os) (started : os.Started) (H : Type) (enc : TypeId × Value → H) :
    ReturnsInHanded {} Try.checked os 8 .any (Rows.mixsRunsSpec.pre6 enc Try.prog Try.f8 Rows.mixsRunsRow.domain false) (Rows.mixsRunsSpec.post enc Try.prog Try.f8 false true false false) := by
  refine law_lifted (C := Try.checked) own started (by kernel_rfl) Try.func8 rfl (fun ds h => ?_) rfl Try.underlying4 laid ?_
    (ChangeSpec.witness6 (enc := enc) (C := Try.checked) false ⟨#[], #[.agg #[.int .u32 0, .int .u32 0, .int .u32 0, .int .u32 0, .int .u32 0, .int .u32 0, .int .u32 0, .int .u32 0, .int .u32 0, .int .u32 0, .int .u32 0, .int .u32 0, .int .u32 0, .int .u32 0, .int .u32 0, .int .u32 0, .int .u32 0, .int .u32 0, .int .u32 0, .int .u32 0, .int .u32 0, .int .u32 0, .int .u32 0, .int .u32 0, .int .u64 0, .bool false, .bool false], .agg #[.int .u32 0, .int .u32 0, .int .u32 0, .int .u32 0, .int .u32 0, .int .u32 0, .int .u32 0, .int .u32 0, .int .u32 0, .int .u32 0, .int .u32 0, .int .u32 0, .int .u32 0, .int .u32 0, .int .u32 0, .int .u32 0]], []⟩ 8 (by kernel_rfl) (by kernel_rfl) (by kernel_rfl) (by kernel_rfl)) ?_
  · match ds, h with
    | [d0, d1], _ => exact ⟨rfl, rfl, rfl⟩
  · intro t ht
    have ht' : t ∈ ([48, 23] : List TypeId) := ht
    simp only [List.mem_cons, List.not_mem_nil, or_false] at ht'
    rcases ht' with rfl | rfl
    all_goals exact ⟨by kernel_rfl, of_decide_eq_true (by kernel_rfl)⟩
  · intro W base args ds ps hval hA hlt hfz hsz
    have hA' : DataW.TrodAll enc Try.prog W 0 (fun _ => true) true [48, 23] args.toList ds ps := hA
    clear hA
    obtain ⟨v0, v1, d0, d1, p0, p1, hargs, rfl, rfl, h0, h1⟩ := trodAll_two hA'
    obtain rfl : args = #[v0, v1] := by cases args; simp_all
    obtain ⟨H, M, n, last, node, rfl⟩ := open_run (hval 0 48 v0 rfl rfl)
    obtain ⟨V, rfl⟩ := open_w16 (hval 1 23 v1 rfl rfl)
    exact (runs_walk H M n last node V W).mono fun e W' ⟨he, hk⟩ => ⟨he, hk.below⟩

theorem runs_holds : Rows.MixsRunsSaid :=
  OpenClaim.holds_of_wide 8 Try.f8 rfl rfl rfl rfl rfl rfl rfl ⟨rfl, rfl, rfl, rfl, rfl⟩ rfl rfl rfl rfl rfl (by kernel_rfl) Try.func8 (by kernel_rfl)
    (of_decide_eq_true (by kernel_rfl)) (by unfold Func.isWrapper; rw [if_neg (of_decide_eq_false (by kernel_rfl))]; exact ⟨rfl, rfl⟩)
    (fun os started H enc _ => runs_lifted os started H enc)
end Go.Proofs.Ytanibkocihjgjaa

/-
  MixbBlocks: F of mixb is the reference's, for every block of input.
-/
import Derived.Test.YtainpnjddhabfaaBlock
import Derived.Test.YtainpnjddhabfaaW14
namespace Go.Proofs.Ytainpnjddhabfaa
open Go.ChangeShapes Go.WideShapes Go.ChangeAt Go.RowKit

theorem blocks_walk (H M : Nat → BitVec 64) (lo hi : BitVec 64) (last node : Bool) (w : World) : Calls Try.prog 9 #[.agg (blkC H M lo hi last node)] w fun e w' => e = .returned (.bool true) ∧ Keeps w w' [] := by
  have O := Own.start w []
  have C1 := Lib.hid fun w => f_any H M lo hi last node w
  have C2 := Lib.hid fun w => reff_any H M lo hi last node w
  generalize fB H M lo hi last node = R at *
  have n1 := eqW_self 8 R
  go_enter Try.func9, Try.ntmps9
  go_wp2_with (first
    | (refine own_box 1 (blkC H M lo hi last node) O rfl rfl rfl rfl ?_; clear O; intro W a0 O; simp only [Act.put, List.setIfInBounds_toArray, List.set_cons_zero, List.set_cons_succ]))
  have lc := Later.cell (O.get 0 rfl)
  have c24 : ∀ p : Later W, p.1.cell? ⟨a0, 24, none⟩ = some (U64 lo) := fun p => (lc p 24).trans (blkC_24 ..)
  have c25 : ∀ p : Later W, p.1.cell? ⟨a0, 25, none⟩ = some (U64 hi) := fun p => (lc p 25).trans (blkC_25 ..)
  have c26 : ∀ p : Later W, p.1.cell? ⟨a0, 26, none⟩ = some (.bool last) := fun p => (lc p 26).trans (blkC_26 ..)
  have c27 : ∀ p : Later W, p.1.cell? ⟨a0, 27, none⟩ = some (.bool node) := fun p => (lc p 27).trans (blkC_27 ..)
  clear lc
  refine wp_quiet_later (by kernel_rfl) (by kernel_rfl) ?_
  repeat (first
    | (refine wpQuiet_load_part (part := words 8 H) 4 rfl rfl rfl rfl (Later.blk (O.get 0 rfl)) Try.underlying23 rfl (by kernel_rfl) ?_ ?_; (exact fun j hj => blkC_H H M lo hi last node j (by simpa [words_size] using hj)); simp only [Act.put, List.setIfInBounds_toArray, List.set_cons_zero, List.set_cons_succ])
    | (refine wpQuiet_load_part (part := words 8 H) 15 rfl rfl rfl rfl (Later.blk (O.get 0 rfl)) Try.underlying23 rfl (by kernel_rfl) ?_ ?_; (exact fun j hj => blkC_H H M lo hi last node j (by simpa [words_size] using hj)); simp only [Act.put, List.setIfInBounds_toArray, List.set_cons_zero, List.set_cons_succ])
    | (refine wpQuiet_load_part (part := words 16 M) 6 rfl rfl rfl rfl (Later.blk (O.get 0 rfl)) Try.underlying33 rfl (by kernel_rfl) ?_ ?_; (exact fun j hj => blkC_M H M lo hi last node j (by simpa [words_size] using hj)); simp only [Act.put, List.setIfInBounds_toArray, List.set_cons_zero, List.set_cons_succ])
    | (refine wpQuiet_load_part (part := words 16 M) 17 rfl rfl rfl rfl (Later.blk (O.get 0 rfl)) Try.underlying33 rfl (by kernel_rfl) ?_ ?_; (exact fun j hj => blkC_M H M lo hi last node j (by simpa [words_size] using hj)); simp only [Act.put, List.setIfInBounds_toArray, List.set_cons_zero, List.set_cons_succ])
    | (refine wpQuiet_load_part (part := #[U64 lo, U64 hi]) 8 rfl rfl rfl rfl (Later.blk (O.get 0 rfl)) Try.underlying35 rfl (by kernel_rfl) ?_ ?_; (exact fun j hj => blkC_c H M lo hi last node j (by simpa using hj)); simp only [Act.put, List.setIfInBounds_toArray, List.set_cons_zero, List.set_cons_succ])
    | go_big_quiet_step (first | (go_at_call 30; exact later_of (C1.out _)) | (go_at_call 31; exact later_of (C2.out _))))
  refine wpQuiet_nil ?_
  intro _ hw
  obtain ⟨p, rfl⟩ := hw
  go_wp2
  go_ret
  exact ⟨rfl, O.keep.trans p.2 (by simp)⟩

set_option maxRecDepth 100000 in
theorem blocks_lifted (os : Os) (started : os.Started) (H : Type) (enc : TypeId × Value → H) :
    ReturnsInHanded {} Try.checked os 9 .any (Rows.mixbBlocksSpec.pre6 enc Try.prog Try.f9 Rows.mixbBlocksRow.domain false) (Rows.mixbBlocksSpec.post enc Try.prog Try.f9 false true false false) := by
  refine law_lifted (C := Try.checked) own started (by kernel_rfl) Try.func9 rfl (fun ds h => ?_) rfl Try.underlying4 laid ?_
    (ChangeSpec.witness6 (enc := enc) (C := Try.checked) false ⟨#[], #[.agg #[.int .u64 0, .int .u64 0, .int .u64 0, .int .u64 0, .int .u64 0, .int .u64 0, .int .u64 0, .int .u64 0, .int .u64 0, .int .u64 0, .int .u64 0, .int .u64 0, .int .u64 0, .int .u64 0, .int .u64 0, .int .u64 0, .int .u64 0, .int .u64 0, .int .u64 0, .int .u64 0, .int .u64 0, .int .u64 0, .int .u64 0, .int .u64 0, .int .u64 0, .int .u64 0, .bool false, .bool false]], []⟩ 8 (by kernel_rfl) (by kernel_rfl) (by kernel_rfl) (by kernel_rfl)) ?_
  · match ds, h with
    | [d], _ => exact ⟨rfl, rfl, rfl⟩
  · intro t ht
    have ht' : t ∈ ([37] : List TypeId) := ht
    simp only [List.mem_cons, List.not_mem_nil, or_false] at ht'
    subst ht'
    exact ⟨by kernel_rfl, of_decide_eq_true (by kernel_rfl)⟩
  · intro W base args ds ps hval hA hlt hfz hsz
    have hA' : DataW.TrodAll enc Try.prog W 0 (fun _ => true) true [37] args.toList ds ps := hA
    clear hA
    obtain ⟨v0, d0, hargs, rfl, h0⟩ := trodAll_one hA'
    obtain rfl : args = #[v0] := by cases args; simp_all
    obtain ⟨H, M, lo, hi, last, node, rfl⟩ := open_block (hval 0 37 v0 rfl rfl)
    exact (blocks_walk H M lo hi last node W).mono fun e W' ⟨he, hk⟩ => ⟨he, hk.below⟩

theorem blocks_holds : Rows.MixbBlocksSaid :=
  OpenClaim.holds_of_wide 9 Try.f9 rfl rfl rfl rfl rfl rfl rfl ⟨rfl, rfl, rfl, rfl, rfl⟩ rfl rfl rfl rfl rfl (by kernel_rfl) Try.func9 (by kernel_rfl)
    (of_decide_eq_true (by kernel_rfl)) (by unfold Func.isWrapper; rw [if_neg (of_decide_eq_false (by kernel_rfl))]; exact ⟨rfl, rfl⟩)
    (fun os started H enc _ => blocks_lifted os started H enc)
end Go.Proofs.Ytainpnjddhabfaa

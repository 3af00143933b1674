/-
  MixbInits: for every block of input, mixb.Init is the reference's; the law returns true for every input.
-/
import Derived.Test.YtainpnjddhabfaaBlock
namespace Go.Proofs.Ytainpnjddhabfaa
open Go.ChangeShapes Go.WideShapes Go.ChangeAt Go.RowKit

theorem inits_walk (H M : Nat → BitVec 64) (lo hi : BitVec 64) (last node : Bool) (w : World) : Calls Try.prog 5 #[.agg (blkC H M lo hi last node)] w fun e w' => e = .returned (.bool true) ∧ Keeps w w' [] := by
  have O := Own.start w []
  have n1 := eqW_self 16 (initV H lo hi last node)
  go_enter Try.func5, Try.ntmps5
  go_wp2_with (first
    | (refine own_box 1 (blkC H M lo hi last node) O rfl rfl rfl rfl ?_; clear O; intro W a0 O; simp only [Act.put, List.setIfInBounds_toArray, List.set_cons_zero, List.set_cons_succ]))
  have lc := Later.cell (O.get 0 rfl)
  have c24 : ∀ p : Later W, p.1.cell? ⟨a0, 24, none⟩ = some (U64 lo) := fun p => (lc p 24).trans (blkC_24 ..)
  have c25 : ∀ p : Later W, p.1.cell? ⟨a0, 25, none⟩ = some (U64 hi) := fun p => (lc p 25).trans (blkC_25 ..)
  have c26 : ∀ p : Later W, p.1.cell? ⟨a0, 26, none⟩ = some (.bool last) := fun p => (lc p 26).trans (blkC_26 ..)
  have c27 : ∀ p : Later W, p.1.cell? ⟨a0, 27, none⟩ = some (.bool node) := fun p => (lc p 27).trans (blkC_27 ..)
  clear lc
  refine wp_quiet_later (by kernel_rfl) (by kernel_rfl) ?_
  repeat (first
    | (refine wpQuiet_load_part (part := words 8 H) 4 rfl rfl rfl rfl (Later.blk (O.get 0 rfl)) Try.underlying23 rfl (by kernel_rfl) ?_ ?_; (exact fun j hj => blkC_H H M lo hi last node j (by simpa [words_size] using hj)); simp only [Act.put, List.setIfInBounds_toArray, List.set_cons_zero, List.set_cons_succ])
    | (refine wpQuiet_load_part (part := words 8 H) 13 rfl rfl rfl rfl (Later.blk (O.get 0 rfl)) Try.underlying23 rfl (by kernel_rfl) ?_ ?_; (exact fun j hj => blkC_H H M lo hi last node j (by simpa [words_size] using hj)); simp only [Act.put, List.setIfInBounds_toArray, List.set_cons_zero, List.set_cons_succ])
    | (refine wpQuiet_load_part (part := #[U64 lo, U64 hi]) 6 rfl rfl rfl rfl (Later.blk (O.get 0 rfl)) Try.underlying35 rfl (by kernel_rfl) ?_ ?_; (exact fun j hj => blkC_c H M lo hi last node j (by simpa using hj)); simp only [Act.put, List.setIfInBounds_toArray, List.set_cons_zero, List.set_cons_succ])
    | go_big_quiet_step (first | (go_at_call 17; exact later_of (init_any _ _ _ _ _ _)) | (go_at_call 18; exact later_of (refinit_any _ _ _ _ _ _))))
  refine wpQuiet_nil ?_
  intro _ hw
  obtain ⟨p, rfl⟩ := hw
  go_wp2
  go_ret
  exact ⟨rfl, O.keep.trans p.2 (by simp)⟩

set_option maxRecDepth 100000 in
theorem inits_lifted (os : Os) (started : os.Started) (H : Type) (enc : TypeId × Value → H) :
    ReturnsInHanded {} Try.checked os 5 .any (Rows.mixbInitsSpec.pre6 enc Try.prog Try.f5 Rows.mixbInitsRow.domain false) (Rows.mixbInitsSpec.post enc Try.prog Try.f5 false true false false) := by
  refine law_lifted (C := Try.checked) own started (by kernel_rfl) Try.func5 rfl (fun ds h => ?_) rfl Try.underlying4 laid ?_
    (ChangeSpec.witness6 (enc := enc) (C := Try.checked) false ⟨#[], #[.agg #[.int .u64 0, .int .u64 0, .int .u64 0, .int .u64 0, .int .u64 0, .int .u64 0, .int .u64 0, .int .u64 0, .int .u64 0, .int .u64 0, .int .u64 0, .int .u64 0, .int .u64 0, .int .u64 0, .int .u64 0, .int .u64 0, .int .u64 0, .int .u64 0, .int .u64 0, .int .u64 0, .int .u64 0, .int .u64 0, .int .u64 0, .int .u64 0, .int .u64 0, .int .u64 0, .bool false, .bool false]], []⟩ 8 (by kernel_rfl) (by kernel_rfl) (by kernel_rfl) (by kernel_rfl)) ?_
  · match ds, h with
    | [d], _ => exact ⟨rfl, rfl, rfl⟩
  · intro t ht
    have ht' : t ∈ ([37] : List TypeId) := ht
    simp only [List.mem_cons, List.not_mem_nil, or_false] at ht'
    subst ht'
    exact ⟨by kernel_rfl, of_decide_eq_true (by kernel_rfl)⟩
  · intro W base args ds ps hval hA hlt hfz hsz
    have hA' : DataW.TrodAll enc Try.prog W 0 (fun _ => true) true [37] args.toList ds ps := hA
    clear hA
    obtain ⟨v0, d0, hargs, rfl, h0⟩ := trodAll_one hA'
    obtain rfl : args = #[v0] := by cases args; simp_all
    obtain ⟨H, M, lo, hi, last, node, rfl⟩ := open_block (hval 0 37 v0 rfl rfl)
    exact (inits_walk H M lo hi last node W).mono fun e W' ⟨he, hk⟩ => ⟨he, hk.below⟩

theorem inits_holds : Rows.MixbInitsSaid :=
  OpenClaim.holds_of_wide 5 Try.f5 rfl rfl rfl rfl rfl rfl rfl ⟨rfl, rfl, rfl, rfl, rfl⟩ rfl rfl rfl rfl rfl (by kernel_rfl) Try.func5 (by kernel_rfl)
    (of_decide_eq_true (by kernel_rfl)) (by unfold Func.isWrapper; rw [if_neg (of_decide_eq_false (by kernel_rfl))]; exact ⟨rfl, rfl⟩)
    (fun os started H enc _ => inits_lifted os started H enc)
end Go.Proofs.Ytainpnjddhabfaa

/-
  MixsStates: the eleven states of mixs are the reference's, and new memory each time; the law returns true for every input.
-/
import Derived.Test.YtanibkocihjgjaaS10
namespace Go.Proofs.Ytanibkocihjgjaa
open Go.ChangeShapes Go.WideShapes Go.ChangeAt Go.RowKit

set_option maxRecDepth 100000 in
set_option maxHeartbeats 2000000 in
theorem states_walk (H M : Nat → BitVec 32) (n : BitVec 64) (last node : Bool) (w : World) : Calls Try.prog 5 #[.agg (runC H M n last node)] w fun e w' => e = .returned (.bool true) ∧ Keeps w w' [] := by
  have O := Own.start w []
  have C1 := Lib.hid fun w => states_any H M n last node w
  have C2 := Lib.hid fun w => refstates_any H M n last node w
  generalize stF H M n last node = F at *
  go_enter Try.func5, Try.ntmps5
  go_wp2_with (first
    | (refine own_box 1 (runC H M n last node) O rfl rfl rfl rfl ?_; clear O; intro W a1 O; simp only [Act.put, List.setIfInBounds_toArray, List.set_cons_zero, List.set_cons_succ]; have q24 : W.cell? ⟨a1, 24, none⟩ = some (U64 n) := ((O.get 0 rfl).cell 24).trans (runC_r H M n last node 0); have q25 : W.cell? ⟨a1, 25, none⟩ = some (.bool last) := ((O.get 0 rfl).cell 25).trans (runC_r H M n last node 1); have q26 : W.cell? ⟨a1, 26, none⟩ = some (.bool node) := ((O.get 0 rfl).cell 26).trans (runC_r H M n last node 2))
    | (refine own_load_part (part := words 8 H) 10 0 O rfl rfl rfl rfl rfl Try.underlying33 rfl (by kernel_rfl) ?_ ?_; (exact fun j hj => runC_H H M n last node j (by simpa [words_size] using hj)); simp only [Act.put, List.setIfInBounds_toArray, List.set_cons_zero, List.set_cons_succ])
    | (refine own_load_part (part := words 16 M) 12 0 O rfl rfl rfl rfl rfl Try.underlying23 rfl (by kernel_rfl) ?_ ?_; (exact fun j hj => runC_M H M n last node j (by simpa [words_size] using hj)); simp only [Act.put, List.setIfInBounds_toArray, List.set_cons_zero, List.set_cons_succ])
    | (go_at_call 30; refine (C1.out _).mono ?_; rintro e W ⟨K, g1, c1, cur1, rfl, hb1, B1, hn1, hx1, hs1, ht1⟩; replace O := O.fresh K hb1 B1; clear K B1 hb1; clear q24 q25 q26; have q24 : W.cell? ⟨a1, 24, none⟩ = some (U64 n) := ((O.get 1 rfl).cell 24).trans (runC_r H M n last node 0); have q25 : W.cell? ⟨a1, 25, none⟩ = some (.bool last) := ((O.get 1 rfl).cell 25).trans (runC_r H M n last node 1); have q26 : W.cell? ⟨a1, 26, none⟩ = some (.bool node) := ((O.get 1 rfl).cell 26).trans (runC_r H M n last node 2))
    | (refine own_load_part (part := words 8 H) 21 1 O rfl rfl rfl rfl rfl Try.underlying33 rfl (by kernel_rfl) ?_ ?_; (exact fun j hj => runC_H H M n last node j (by simpa [words_size] using hj)); simp only [Act.put, List.setIfInBounds_toArray, List.set_cons_zero, List.set_cons_succ])
    | (refine own_load_part (part := words 16 M) 23 1 O rfl rfl rfl rfl rfl Try.underlying23 rfl (by kernel_rfl) ?_ ?_; (exact fun j hj => runC_M H M n last node j (by simpa [words_size] using hj)); simp only [Act.put, List.setIfInBounds_toArray, List.set_cons_zero, List.set_cons_succ])
    | (go_at_call 30; refine (C1.out _).mono ?_; rintro e W ⟨K, g2, c2, cur2, rfl, hb2, B2, hn2, hx2, hs2, ht2⟩; replace O := O.fresh K hb2 B2; clear K B2 hb2; clear q24 q25 q26; have q24 : W.cell? ⟨a1, 24, none⟩ = some (U64 n) := ((O.get 2 rfl).cell 24).trans (runC_r H M n last node 0); have q25 : W.cell? ⟨a1, 25, none⟩ = some (.bool last) := ((O.get 2 rfl).cell 25).trans (runC_r H M n last node 1); have q26 : W.cell? ⟨a1, 26, none⟩ = some (.bool node) := ((O.get 2 rfl).cell 26).trans (runC_r H M n last node 2)))
  clear q24 q25 q26
  go_loopw [5] (fun i wr => ∃ (k : Nat) (cs : Array Value), k ≤ 11 ∧ i = .int .i64 k ∧ cs.size = c1 * 16 ∧ Own w wr [] [(g2, 23, cur2), (g1, 23, cs), (a1, 48, runC H M n last node)]) (fun i _ => 11 - (intOf i).toNat)
  case atStart => exact ⟨0, cur1, by omega, rfl, hs1, O⟩
  case round =>
    obtain ⟨k, cs, hk, rfl, hcs, O⟩ := hrel
    by_cases hlt : k < 11
    · have g1' : ((k : Int)) < 11 := by omega
      have g0' : (0 : Int) ≤ k := by omega
      have ak := add_zero_ g1 (k * 16)
      go_wp2_with (first
        | (refine wpList_const 39 (.agg (words 16 fun i => if i = 0 then 7 else 0)) rfl rfl (fun _ => by kernel_rfl) ?_; simp only [Act.put, List.setIfInBounds_toArray, List.set_cons_zero, List.set_cons_succ])
        | (refine own_store_mid 1 (k * 16) (.tmp 40) (.tmp 39) O rfl rfl rfl rfl rfl rfl (by kernel_rfl) (by rw [words_size, hcs]; omega) (Array.all_eq_true_iff_forall_mem.2 fun v hv => words_cell 16 _ v (by simpa using hv)) ?_; clear O; intro W cs' hcs' O; simp only [List.set_cons_zero, List.set_cons_succ] at O))
      clear ak
      go_roundw
      case rel => exact ⟨k + 1, cs', by omega, by go_num, by rw [hcs', hcs], O⟩
      case measure => (simp [intOf] <;> omega)
    · obtain rfl : k = 11 := by omega
      have q24 : wr.cell? ⟨a1, 24, none⟩ = some (U64 n) := ((O.get 2 rfl).cell 24).trans (runC_r H M n last node 0)
      have q25 : wr.cell? ⟨a1, 25, none⟩ = some (.bool last) := ((O.get 2 rfl).cell 25).trans (runC_r H M n last node 1)
      have q26 : wr.cell? ⟨a1, 26, none⟩ = some (.bool node) := ((O.get 2 rfl).cell 26).trans (runC_r H M n last node 2)
      go_wp2_with (first
        | (refine own_load_part (part := words 8 H) 42 2 O rfl rfl rfl rfl rfl Try.underlying33 rfl (by kernel_rfl) ?_ ?_; (exact fun j hj => runC_H H M n last node j (by simpa [words_size] using hj)); simp only [Act.put, List.setIfInBounds_toArray, List.set_cons_zero, List.set_cons_succ])
        | (refine own_load_part (part := words 16 M) 44 2 O rfl rfl rfl rfl rfl Try.underlying23 rfl (by kernel_rfl) ?_ ?_; (exact fun j hj => runC_M H M n last node j (by simpa [words_size] using hj)); simp only [Act.put, List.setIfInBounds_toArray, List.set_cons_zero, List.set_cons_succ])
        | (go_at_call 30; refine (C1.out _).mono ?_; rintro e W ⟨K, g3, c3, cur3, rfl, hb3, B3, hn3, hx3, hs3, ht3⟩; replace O := O.fresh K hb3 B3; clear K B3 hb3; clear q24 q25 q26; have q24 : W.cell? ⟨a1, 24, none⟩ = some (U64 n) := ((O.get 3 rfl).cell 24).trans (runC_r H M n last node 0); have q25 : W.cell? ⟨a1, 25, none⟩ = some (.bool last) := ((O.get 3 rfl).cell 25).trans (runC_r H M n last node 1); have q26 : W.cell? ⟨a1, 26, none⟩ = some (.bool node) := ((O.get 3 rfl).cell 26).trans (runC_r H M n last node 2))
        | (refine own_load_part (part := words 8 H) 53 3 O rfl rfl rfl rfl rfl Try.underlying33 rfl (by kernel_rfl) ?_ ?_; (exact fun j hj => runC_H H M n last node j (by simpa [words_size] using hj)); simp only [Act.put, List.setIfInBounds_toArray, List.set_cons_zero, List.set_cons_succ])
        | (refine own_load_part (part := words 16 M) 55 3 O rfl rfl rfl rfl rfl Try.underlying23 rfl (by kernel_rfl) ?_ ?_; (exact fun j hj => runC_M H M n last node j (by simpa [words_size] using hj)); simp only [Act.put, List.setIfInBounds_toArray, List.set_cons_zero, List.set_cons_succ])
        | (go_at_call 31; refine (C2.out _).mono ?_; rintro e W ⟨K, g4, c4, cur4, rfl, hb4, B4, hn4, hx4, hs4, ht4⟩; replace O := O.fresh K hb4 B4; clear K B4 hb4; clear q24 q25 q26; have q24 : W.cell? ⟨a1, 24, none⟩ = some (U64 n) := ((O.get 4 rfl).cell 24).trans (runC_r H M n last node 0); have q25 : W.cell? ⟨a1, 25, none⟩ = some (.bool last) := ((O.get 4 rfl).cell 25).trans (runC_r H M n last node 1); have q26 : W.cell? ⟨a1, 26, none⟩ = some (.bool node) := ((O.get 4 rfl).cell 26).trans (runC_r H M n last node 2)))
      clear q24 q25 q26
      go_loopw [8] (fun i wr => ∃ k : Nat, k ≤ 11 ∧ i = .int .i64 k ∧ Own w wr [] [(g4, 23, cur4), (g3, 23, cur3), (g2, 23, cur2), (g1, 23, cs), (a1, 48, runC H M n last node)]) (fun i _ => 11 - (intOf i).toNat)
      case atStart => exact ⟨0, by omega, rfl, O⟩
      case round =>
        obtain ⟨k, hk, rfl, O⟩ := hrel
        by_cases hlt : k < 11
        · have g1' : ((k : Int)) < 11 := by omega
          have g0' : (0 : Int) ≤ k := by omega
          have a2' := add_zero_ g2 (k * 16)
          have a3' := add_zero_ g3 (k * 16)
          have a4' := add_zero_ g4 (k * 16)
          have n1 := eqW_self 16 (F k)
          go_wp2
          refine wp_quiet_drawn (by kernel_rfl) (by kernel_rfl) ?_
          repeat (first
            | (refine wpQuiet_load_part (off := k * 16) (part := words 16 (F k)) 84 rfl rfl rfl rfl (drawn_blk (O.get 2 rfl)) Try.underlying23 rfl (by kernel_rfl) ?_ ?_; (exact fun j hj => by rw [words_size] at hj; rw [Nat.mul_comm, ht2 k j hlt hj, words_get _ _ _ hj]); simp only [Act.put, List.setIfInBounds_toArray, List.set_cons_zero, List.set_cons_succ])
            | (refine wpQuiet_load_part (off := k * 16) (part := words 16 (F k)) 88 rfl rfl rfl rfl (drawn_blk (O.get 0 rfl)) Try.underlying23 rfl (by kernel_rfl) ?_ ?_; (exact fun j hj => by rw [words_size] at hj; rw [Nat.mul_comm, ht4 k j hlt hj, words_get _ _ _ hj]); simp only [Act.put, List.setIfInBounds_toArray, List.set_cons_zero, List.set_cons_succ])
            | (refine wpQuiet_load_part (off := k * 16) (part := words 16 (F k)) 94 rfl rfl rfl rfl (drawn_blk (O.get 1 rfl)) Try.underlying23 rfl (by kernel_rfl) ?_ ?_; (exact fun j hj => by rw [words_size] at hj; rw [Nat.mul_comm, ht3 k j hlt hj, words_get _ _ _ hj]); simp only [Act.put, List.setIfInBounds_toArray, List.set_cons_zero, List.set_cons_succ])
            | (refine wpQuiet_load_part (off := k * 16) (part := words 16 (F k)) 98 rfl rfl rfl rfl (drawn_blk (O.get 0 rfl)) Try.underlying23 rfl (by kernel_rfl) ?_ ?_; (exact fun j hj => by rw [words_size] at hj; rw [Nat.mul_comm, ht4 k j hlt hj, words_get _ _ _ hj]); simp only [Act.put, List.setIfInBounds_toArray, List.set_cons_zero, List.set_cons_succ])
            | go_big_quiet_step (fail))
          refine wpQuiet_nil ?_
          intro _ hw
          obtain ⟨n0, rfl⟩ := hw
          replace O := O.drewN n0
          generalize World.drewN _ n0 = W at O ⊢
          go_wp2
          go_roundw
          case rel => exact ⟨k + 1, by omega, by go_num, O⟩
          case measure => (simp [intOf] <;> omega)
        · obtain rfl : k = 11 := by omega
          go_wp2
          go_ret
          exact ⟨rfl, O.keep⟩

set_option maxRecDepth 100000 in
theorem states_lifted (os : Os) (started : os.Started) (H : Type) (enc : TypeId × Value → H) :
    ReturnsInHanded {} Try.checked os 5 .any (Rows.mixsStatesSpec.pre6 enc Try.prog Try.f5 Rows.mixsStatesRow.domain false) (Rows.mixsStatesSpec.post enc Try.prog Try.f5 false true false false) := by
  refine law_lifted (C := Try.checked) own started (by kernel_rfl) Try.func5 rfl (fun ds h => ?_) rfl Try.underlying4 laid ?_
    (ChangeSpec.witness6 (enc := enc) (C := Try.checked) false ⟨#[], #[.agg #[.int .u32 0, .int .u32 0, .int .u32 0, .int .u32 0, .int .u32 0, .int .u32 0, .int .u32 0, .int .u32 0, .int .u32 0, .int .u32 0, .int .u32 0, .int .u32 0, .int .u32 0, .int .u32 0, .int .u32 0, .int .u32 0, .int .u32 0, .int .u32 0, .int .u32 0, .int .u32 0, .int .u32 0, .int .u32 0, .int .u32 0, .int .u32 0, .int .u64 0, .bool false, .bool false]], []⟩ 8 (by kernel_rfl) (by kernel_rfl) (by kernel_rfl) (by kernel_rfl)) ?_
  · match ds, h with
    | [d], _ => exact ⟨rfl, rfl, rfl⟩
  · intro t ht
    have ht' : t ∈ ([48] : List TypeId) := ht
    simp only [List.mem_cons, List.not_mem_nil, or_false] at ht'
    subst ht'
    exact ⟨by kernel_rfl, of_decide_eq_true (by kernel_rfl)⟩
  · intro W base args ds ps hval hA hlt hfz hsz
    have hA' : DataW.TrodAll enc Try.prog W 0 (fun _ => true) true [48] args.toList ds ps := hA
    clear hA
    obtain ⟨v0, d0, hargs, hds, h0⟩ := trodAll_one hA'
    subst hargs
    obtain ⟨H, M, n, last, node, rfl⟩ := open_run (hval 0 48 v0 rfl rfl)
    exact (states_walk H M n last node W).mono fun e W' ⟨he, hk⟩ => ⟨he, hk.below⟩

theorem states_holds : Rows.MixsStatesSaid :=
  OpenClaim.holds_of_wide 5 Try.f5 rfl rfl rfl rfl rfl rfl rfl ⟨rfl, rfl, rfl, rfl, rfl⟩ rfl rfl rfl rfl rfl (by kernel_rfl) Try.func5 (by kernel_rfl)
    (of_decide_eq_true (by kernel_rfl)) (by unfold Func.isWrapper; rw [if_neg (of_decide_eq_false (by kernel_rfl))]; exact ⟨rfl, rfl⟩)
    (fun os started H enc _ => states_lifted os started H enc)
end Go.Proofs.Ytanibkocihjgjaa

/-
  MixbSpells: F of mixb is what its law spells out.
-/
import Derived.Test.YtainpnjddhabfaaBlock
import Derived.Test.YtainpnjddhabfaaW14
namespace Go.Proofs.Ytainpnjddhabfaa
open Go.ChangeShapes Go.WideShapes Go.ChangeAt Go.RowKit

theorem wp_quiet_drawn {P : Program} {id : Nat} {Q : Exit → Act → World → Prop} {a : Act} {w : World} {l : List Oper} (hm : P.follows .mixedOrders = true) (hB : Region.lexB .any l.toArray = true)
    (h : wpQuiet P l.toArray (fun u => ∃ n, u = w.drewN n) (fun a' => ∀ w', (∃ n, w' = w.drewN n) → Q .normal a' w') l a) : (Code.region id l.toArray true).wp P Q a w :=
  wp_region_quiet (C := fun u => ∃ n, u = w.drewN n) hm hB ⟨1, rfl⟩ (by simpa using h)

set_option maxHeartbeats 1000000 in
theorem spells_walk (H M : Nat → BitVec 64) (lo hi : BitVec 64) (last node : Bool) (w : World) : Calls Try.prog 11 #[.agg (blkC H M lo hi last node)] w fun e w' => e = .returned (.bool true) ∧ Keeps w w' [] := by
  have O := Own.start w []
  have HF : fB H M lo hi last node = mixK H (fK M (initV H lo hi last node) 12) 8 := rfl
  generalize hI : fK M (initV H lo hi last node) = FK at *
  have F0 : FK 0 = initV H lo hi last node := by rw [← hI]; rfl
  have Fsx : ∀ k, k ≤ 11 → rSt (FK k) M (k : Nat) = FK (k + 1) := fun k hk => by
    rw [← hI]
    unfold rSt
    rw [rOk_good (by omega)]
    rfl
  have FE : ∀ k : Nat, k ≤ 11 → rEr (k : Nat) = 0 := fun k hk => by
    unfold rEr
    rw [rOk_good (by omega)]
    rfl
  have C1 := Lib.hid fun w => f_any H M lo hi last node w
  rw [HF] at C1
  have H0 := Lib.hid F0
  have HS := Lib.hid Fsx
  have HE := Lib.hid FE
  clear hI F0 Fsx HF FE
  go_enter Try.func11, Try.ntmps11
  go_wp2_with (first
    | (refine own_box 1 (blkC H M lo hi last node) O rfl rfl rfl rfl ?_; clear O; intro W a1 O; simp only [Act.put, List.setIfInBounds_toArray, List.set_cons_zero, List.set_cons_succ])
    | (go_at_call 16; refine (awake_any _).mono ?_; rintro e W ⟨rfl, K⟩; replace O := O.keeps K; clear K; have lc := (O.get 0 rfl).cell; have c26 := (lc 26).trans (blkC_26 H M lo hi last node); have c27 := (lc 27).trans (blkC_27 H M lo hi last node); clear lc)
    | (refine own_load_part (part := words 8 H) 12 0 O rfl rfl rfl rfl rfl Try.underlying23 rfl (by kernel_rfl) ?_ ?_; (exact fun j hj => blkC_H H M lo hi last node j (by simpa [words_size] using hj)); simp only [Act.put, List.setIfInBounds_toArray, List.set_cons_zero, List.set_cons_succ])
    | (refine own_load_part (part := #[U64 lo, U64 hi]) 14 0 O rfl rfl rfl rfl rfl Try.underlying35 rfl (by kernel_rfl) ?_ ?_; (exact fun j hj => blkC_c H M lo hi last node j (by simpa using hj)); simp only [Act.put, List.setIfInBounds_toArray, List.set_cons_zero, List.set_cons_succ])
    | (go_at_call 17; refine (init_any _ _ _ _ _ _).mono ?_; rintro e W ⟨rfl, K⟩; replace O := O.keeps K; clear K c26 c27)
    | (refine own_alloc 3 (words 16 fun _ => 0) O rfl rfl rfl (fun _ => by kernel_rfl) ?_; clear O; intro W a3 O; simp only [Act.put, List.setIfInBounds_toArray, List.set_cons_zero, List.set_cons_succ])
    | (refine own_store_row 0 (.tmp 3) (.tmp 19) O rfl rfl rfl rfl rfl rfl (by kernel_rfl) (by simp only [words_size]) (words_cell _ _) ?_; clear O; intro W O; simp only [List.set_cons_zero] at O))
  rw [← H0.out] at O
  go_loopw [4] (fun i wr => ∃ k : Nat, k ≤ 12 ∧ i = .int .i64 k ∧ Own w wr [] [(a3, 33, words 16 (FK k)), (a1, 37, blkC H M lo hi last node)]) (fun i _ => 12 - (intOf i).toNat)
  case atStart => exact ⟨0, by omega, rfl, O⟩
  case round =>
    obtain ⟨k, hk, rfl, O⟩ := hrel
    by_cases hlt : k < 12
    · have g1 : ((k : Int)) < 12 := by omega
      have CR := Lib.hid fun w => round_any (FK k) M (k : Nat) w
      rw [HS.out k (by omega), HE.out k (by omega)] at CR
      go_wp2_with (first
        | (refine own_load 25 0 O rfl rfl rfl rfl rfl Try.underlying33 rfl (by kernel_rfl) ?_; simp only [Act.put, List.setIfInBounds_toArray, List.set_cons_zero, List.set_cons_succ])
        | (refine own_load_part (part := words 16 M) 27 1 O rfl rfl rfl rfl rfl Try.underlying33 rfl (by kernel_rfl) ?_ ?_; (exact fun j hj => blkC_M H M lo hi last node j (by simpa [words_size] using hj)); simp only [Act.put, List.setIfInBounds_toArray, List.set_cons_zero, List.set_cons_succ])
        | (go_at_call 28; refine (CR.out _).mono ?_; rintro e W ⟨rfl, K⟩; replace O := O.keeps K; clear K)
        | (refine own_alloc 5 (words 16 fun _ => 0) O rfl rfl rfl (fun _ => by kernel_rfl) ?_; clear O; intro W a5 O; simp only [Act.put, List.setIfInBounds_toArray, List.set_cons_zero, List.set_cons_succ])
        | (refine own_store_row 0 (.tmp 5) (.tmp 30) O rfl rfl rfl rfl rfl rfl (by kernel_rfl) (by simp only [words_size]) (words_cell _ _) ?_; clear O; intro W O; simp only [List.set_cons_zero] at O)
        | (refine own_load 34 0 O rfl rfl rfl rfl rfl Try.underlying33 rfl (by kernel_rfl) ?_; simp only [Act.put, List.setIfInBounds_toArray, List.set_cons_zero, List.set_cons_succ])
        | (refine own_store_row 1 (.tmp 3) (.tmp 34) O rfl rfl rfl rfl rfl rfl (by kernel_rfl) (by simp only [words_size]) (words_cell _ _) ?_; clear O; intro W O; simp only [List.set_cons_zero, List.set_cons_succ] at O))
      go_roundw
      case rel => exact ⟨k + 1, by omega, by go_num, O.drop_ 1⟩
      case measure => (simp [intOf] <;> omega)
    · obtain rfl : k = 12 := by omega
      have lc := (O.get 1 rfl).cell
      have c26 := (lc 26).trans (blkC_26 H M lo hi last node)
      have c27 := (lc 27).trans (blkC_27 H M lo hi last node)
      clear lc
      go_wp2_with (first
        | (refine own_load_part (part := words 8 H) 36 1 O rfl rfl rfl rfl rfl Try.underlying23 rfl (by kernel_rfl) ?_ ?_; (exact fun j hj => blkC_H H M lo hi last node j (by simpa [words_size] using hj)); simp only [Act.put, List.setIfInBounds_toArray, List.set_cons_zero, List.set_cons_succ])
        | (refine own_load_part (part := words 16 M) 38 1 O rfl rfl rfl rfl rfl Try.underlying33 rfl (by kernel_rfl) ?_ ?_; (exact fun j hj => blkC_M H M lo hi last node j (by simpa [words_size] using hj)); simp only [Act.put, List.setIfInBounds_toArray, List.set_cons_zero, List.set_cons_succ])
        | (refine own_load_part (part := #[U64 lo, U64 hi]) 40 1 O rfl rfl rfl rfl rfl Try.underlying35 rfl (by kernel_rfl) ?_ ?_; (exact fun j hj => blkC_c H M lo hi last node j (by simpa using hj)); simp only [Act.put, List.setIfInBounds_toArray, List.set_cons_zero, List.set_cons_succ])
        | (go_at_call 30; refine (C1.out _).mono ?_; rintro e W ⟨rfl, K⟩; replace O := O.keeps K; clear K c26 c27)
        | (refine own_alloc 7 (words 8 fun _ => 0) O rfl rfl rfl (fun _ => by kernel_rfl) ?_; clear O; intro W a7 O; simp only [Act.put, List.setIfInBounds_toArray, List.set_cons_zero, List.set_cons_succ])
        | (refine own_store_row 0 (.tmp 7) (.tmp 45) O rfl rfl rfl rfl rfl rfl (by kernel_rfl) (by simp only [words_size]) (words_cell _ _) ?_; clear O; intro W O; simp only [List.set_cons_zero] at O))
      go_loopw [8] (fun i wr => ∃ j : Nat, j ≤ 8 ∧ i = .int .i64 j ∧ Own w wr [] [(a7, 23, words 8 (mixK H (FK 12) 8)), (a3, 33, words 16 (FK 12)), (a1, 37, blkC H M lo hi last node)]) (fun i _ => 8 - (intOf i).toNat)
      case atStart => exact ⟨0, by omega, rfl, O⟩
      case round =>
        obtain ⟨j, hj, rfl, O⟩ := hrel
        by_cases hlt : j < 8
        · have g1 : ((j : Int)) < 8 := by omega
          have g2 : j < 16 := by omega
          have g3 : ((j : Int)) < 16 := by omega
          have m1 : IntKind.i64.wrap ((j : Int) + 8) = j + 8 := IntWalk.i64_in _ (by omega)
          have m2 : ((j : Int) + 8).toNat = j + 8 := by omega
          have m3 : (0 : Int) ≤ j + 8 := by omega
          have m4 : (j : Int) + 8 < 16 := by omega
          have m5 : j + 8 < 16 := by omega
          have HM := Lib.hid (And.intro m1 m2)
          clear m1 m2
          go_wp2
          obtain ⟨m1, m2⟩ := HM.out
          have c7 := (O.get 0 rfl).cell
          have c3 := (O.get 1 rfl).cell
          have lc := (O.get 2 rfl).cell
          have ca : _ = some (U64 (H j)) := ((lc (0 + j)).trans (blkC_H H M lo hi last node j hlt)).trans (words_get 8 H j hlt)
          rw [Nat.zero_add] at ca
          clear lc
          have e0 : mixK H (FK 12) 8 j = H j ^^^ FK 12 j ^^^ FK 12 (j + 8) := by unfold mixK; rw [if_pos hlt, BitVec.xor_assoc]
          refine wp_quiet_drawn (by kernel_rfl) (by kernel_rfl) ?_
          repeat (go_big_quiet_step (fail))
          refine wpQuiet_nil ?_
          intro _ hw
          obtain ⟨n0, rfl⟩ := hw
          replace O := O.drewN n0
          clear c7 c3 m1 m2 ca e0
          generalize World.drewN _ n0 = W at O ⊢
          go_wp2
          go_roundw
          case rel => exact ⟨j + 1, by omega, by go_num, O⟩
          case measure => (simp [intOf] <;> omega)
        · obtain rfl : j = 8 := by omega
          go_wp2
          go_ret
          exact ⟨rfl, O.keep⟩

set_option maxRecDepth 100000 in
theorem spells_lifted (os : Os) (started : os.Started) (H : Type) (enc : TypeId × Value → H) :
    ReturnsInHanded {} Try.checked os 11 .any (Rows.mixbSpellsSpec.pre6 enc Try.prog Try.f11 Rows.mixbSpellsRow.domain false) (Rows.mixbSpellsSpec.post enc Try.prog Try.f11 false true false false) := by
  refine law_lifted (C := Try.checked) own started (by kernel_rfl) Try.func11 rfl (fun ds h => ?_) rfl Try.underlying4 laid ?_
    (ChangeSpec.witness6 (enc := enc) (C := Try.checked) false ⟨#[], #[.agg #[.int .u64 0, .int .u64 0, .int .u64 0, .int .u64 0, .int .u64 0, .int .u64 0, .int .u64 0, .int .u64 0, .int .u64 0, .int .u64 0, .int .u64 0, .int .u64 0, .int .u64 0, .int .u64 0, .int .u64 0, .int .u64 0, .int .u64 0, .int .u64 0, .int .u64 0, .int .u64 0, .int .u64 0, .int .u64 0, .int .u64 0, .int .u64 0, .int .u64 0, .int .u64 0, .bool false, .bool false]], []⟩ 8 (by kernel_rfl) (by kernel_rfl) (by kernel_rfl) (by kernel_rfl)) ?_
  · match ds, h with
    | [d], _ => exact ⟨rfl, rfl, rfl⟩
  · intro t ht
    have ht' : t ∈ ([37] : List TypeId) := ht
    simp only [List.mem_cons, List.not_mem_nil, or_false] at ht'
    subst ht'
    exact ⟨by kernel_rfl, of_decide_eq_true (by kernel_rfl)⟩
  · intro W base args ds ps hval hA hlt hfz hsz
    have hA' : DataW.TrodAll enc Try.prog W 0 (fun _ => true) true [37] args.toList ds ps := hA
    clear hA
    obtain ⟨v0, d0, hargs, rfl, h0⟩ := trodAll_one hA'
    obtain rfl : args = #[v0] := by cases args; simp_all
    obtain ⟨H, M, lo, hi, last, node, rfl⟩ := open_block (hval 0 37 v0 rfl rfl)
    exact (spells_walk H M lo hi last node W).mono fun e W' ⟨he, hk⟩ => ⟨he, hk.below⟩

theorem spells_holds : Rows.MixbSpellsSaid :=
  OpenClaim.holds_of_wide 11 Try.f11 rfl rfl rfl rfl rfl rfl rfl ⟨rfl, rfl, rfl, rfl, rfl⟩ rfl rfl rfl rfl rfl (by kernel_rfl) Try.func11 (by kernel_rfl)
    (of_decide_eq_true (by kernel_rfl)) (by unfold Func.isWrapper; rw [if_neg (of_decide_eq_false (by kernel_rfl))]; exact ⟨rfl, rfl⟩)
    (fun os started H enc _ => spells_lifted os started H enc)
end Go.Proofs.Ytainpnjddhabfaa

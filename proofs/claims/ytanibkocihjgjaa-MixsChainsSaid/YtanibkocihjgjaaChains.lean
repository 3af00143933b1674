/-
  MixsChains: Chain of mixs is the reference's, for every chain, all bytes and every count, and leaves the bytes as they were; the law returns true for every input.
-/
import Derived.Test.YtanibkocihjgjaaB5
namespace Go.Proofs.Ytanibkocihjgjaa
open Go.ChangeShapes Go.WideShapes Go.ChangeAt Go.RowKit

theorem wide_low (n : Nat) (f : Nat → BitVec 8) (j : Nat) (h : j < n) : wideF n f j = f j := by unfold wideF cat; rw [if_pos h]

set_option maxRecDepth 100000 in
set_option maxHeartbeats 4000000 in
theorem chains_walk (H : Nat → BitVec 32) (A : Option Addr) (n c : Nat) (f : Nat → BitVec 8) (cnt : BitVec 64) (w : World) (hb : Byt w A n f) (hn : n ≤ 140737488351232) (hA : A = none → n = 0 ∧ c = 0) (hnc : n ≤ c) :
    Calls Try.prog 12 #[.agg (words 8 H), .slice A n c, U64 cnt] w fun e w' => e = .returned (.bool true) ∧ Keeps w w' [] := by
  have O := Own.start w []
  have hm : n ≤ maxLen := by simp only [maxLen]; omega
  obtain ⟨X, q, e0, hx⟩ := chA_form H n f cnt
  have c1 := fun A c W (h : Byt W A n f) (h2 : n ≤ c) => chain_any A n c f H cnt W h h2 hm
  have c2 := fun A c W (h : Byt W A n f) (h2 : n ≤ c) => refchain_any A n c f H cnt W h h2 hm
  rw [hx] at c1 c2
  have C1 := Lib.hid c1
  have C2 := Lib.hid c2
  have D1 := Lib.hid fun W (h : Byt W A n f) => wide_any A n c f W h hn hA
  have K1 := Lib.hid fun B m W (h : Byt W A n f) (h' : Byt W B (n + 70) (wideF n f)) => kept_any A B n c m f W h hn hA h'
  have HB := Lib.hid hb
  have HC := Lib.hid hnc
  have WL := Lib.hid (wide_low n f)
  have z1 : (0 : Int) ≤ n := by omega
  clear hb hn hA hm hx c1 c2 hnc
  have n1 := eqW_self 8 X
  go_enter Try.func12, Try.ntmps12
  go_wp2_with (first
    | (refine own_box 3 (words 8 H) O rfl rfl rfl rfl ?_; clear O; intro W a3 O; simp only [Act.put, List.setIfInBounds_toArray, List.set_cons_zero, List.set_cons_succ])
    | (go_at_call 18; (with_reducible refine Calls.mono (D1.out _ (HB.out.kept O.keep)) ?_); rintro e W ⟨K, g1, c1', cur1, rfl, hg1, b1, p1, x1, s1, t1⟩; replace O := O.fresh K hg1 b1; clear K hg1 b1; have y1 : (n : Int) ≤ c1' := by omega))
  refine wp_held (S := fun u => Own w u [] ((g1, 5, cur1) :: (a3, 33, words 8 H) :: [])) 15 #[false, false, false, false, false, false, false, false, false, false, false, false, false, false, false] (by kernel_rfl) rfl rfl ?_
  replace O := O.drew
  refine seg_take (fuel := 9) (L' := #[true, true, true, true, true, true, false, false, false, false, false, false, false, false, false]) (by kernel_rfl) (fun _ _ _ _ _ _ h => h) (by first | exact O | exact O.drop_ 1) [0, 1, 2, 3, 4, 5] [_, _, _, _, _, _] _ _ rfl (by kernel_rfl) ?_
  simp only [List.getElem_toArray, List.getElem_cons_zero, List.getElem_cons_succ]
  repeat (first
    | (refine take_load 17 rfl (by rfl) rfl rfl (fun _ h => Own.get h 1 rfl) Try.underlying33 rfl (by kernel_rfl) ?_; simp only [Act.put, List.setIfInBounds_toArray, List.set_cons_zero, List.set_cons_succ])
    | (refine take_pure (v := ?_) (by rfl) ?_ ?_; rotate_left; (· (intro w hSw; clear hSw; go_simp; try with_reducible rfl)); simp only [Act.put, List.setIfInBounds_toArray, List.set_cons_zero, List.set_cons_succ]))
  refine take_done ?_
  refine seg_two 6 11 #[true, true, true, true, true, true, true, false, false, false, false, false, false, false, false] #[true, true, true, true, true, true, false, false, false, false, false, true, false, false, false] rfl rfl (by kernel_rfl) ?_ ?_
  · try simp only [List.getElem_toArray, List.getElem_cons_zero, List.getElem_cons_succ]
    go_wp2_with (first | (go_at_call 45; (with_reducible refine Calls.mono (C1.out (some ⟨g1, 0, none⟩) c1' _ (Byt.of_blk (O.get 0 rfl) (fun j hj => by rw [t1 j (by omega), WL.out j hj])) (by omega)) ?_); rintro e W ⟨rfl, K⟩; replace O := O.keeps K; clear K) | (go_at_call 45; (with_reducible refine Calls.mono (C1.out (some ⟨g1, 0, none⟩) c1' _ (Byt.of_blk (O.get 1 rfl) (fun j hj => by rw [t1 j (by omega), WL.out j hj])) (by omega)) ?_); rintro e W ⟨rfl, K⟩; replace O := O.keeps K; clear K))
    (first | refine back_intro2 (by first | exact O | exact O.drop_ 1) ?_ | refine back_intro (by first | exact O | exact O.drop_ 1) ?_)
    refine seg_take (fuel := 4) (L' := #[true, true, true, true, true, true, true, true, true, true, true, false, false, false, false]) (by kernel_rfl) (fun _ _ _ _ _ _ h => h) (by first | exact O | exact O.drop_ 1) [7, 8, 9, 10] [_, _, _, _] _ _ rfl (by kernel_rfl) ?_
    simp only [List.getElem_toArray, List.getElem_cons_zero, List.getElem_cons_succ]
    repeat (first
      | (refine take_pure (v := ?_) (by rfl) ?_ ?_; rotate_left; (· (intro w hSw; clear hSw; go_simp; try with_reducible rfl)); simp only [Act.put, List.setIfInBounds_toArray, List.set_cons_zero, List.set_cons_succ]))
    refine take_done ?_
    refine seg_sole 11 #[true, true, true, true, true, true, true, true, true, true, true, true, false, false, false] rfl (by kernel_rfl) ?_
    try simp only [List.getElem_toArray, List.getElem_cons_zero, List.getElem_cons_succ]
    go_wp2_with (refine own_alloc 8 (words 8 fun _ => 0) O rfl rfl rfl (fun _ => by kernel_rfl) ?_; clear O; intro W a8 O; simp only [Act.put, List.setIfInBounds_toArray, List.set_cons_zero, List.set_cons_succ])
    (first | refine back_intro2 (by first | exact O | exact O.drop_ 1) ?_ | refine back_intro (by first | exact O | exact O.drop_ 1) ?_)
    refine seg_sole 12 #[true, true, true, true, true, true, true, true, true, true, true, true, true, false, false] rfl (by kernel_rfl) ?_
    try simp only [List.getElem_toArray, List.getElem_cons_zero, List.getElem_cons_succ]
    go_wp2_with (refine own_store_row 0 (.tmp 8) (.tmp 24) O rfl rfl rfl rfl rfl rfl (by kernel_rfl) (by simp only [words_size]) (words_cell _ _) ?_; clear O; intro W O; simp only [List.set_cons_zero] at O)
    (first | refine back_intro2 (by first | exact O | exact O.drop_ 1) ?_ | refine back_intro (by first | exact O | exact O.drop_ 1) ?_)
    refine seg_take (fuel := 0) (L' := #[true, true, true, true, true, true, true, true, true, true, true, true, true, true, true]) (by kernel_rfl) (fun _ _ _ _ _ _ h => h) (by first | exact O | exact O.drop_ 1) [13, 14] [_, _] _ _ rfl (by kernel_rfl) ?_
    simp only [List.getElem_toArray, List.getElem_cons_zero, List.getElem_cons_succ]
    repeat (first
      | (refine take_pure (v := ?_) (by rfl) ?_ ?_; rotate_left; (· (intro w hSw; clear hSw; go_simp; try with_reducible rfl)); simp only [Act.put, List.setIfInBounds_toArray, List.set_cons_zero, List.set_cons_succ]))
    refine take_done ?_
    refine seg_done (by kernel_rfl) ?_
    go_wp2_with (first
      | (refine own_load 28 2 O rfl rfl rfl rfl rfl Try.underlying33 rfl (by kernel_rfl) ?_; simp only [Act.put, List.setIfInBounds_toArray, List.set_cons_zero, List.set_cons_succ])
      | (go_at_call 46; (with_reducible refine Calls.mono (C2.out A c _ (HB.out.kept O.keep) HC.out) ?_); rintro e W ⟨rfl, K⟩; replace O := O.keeps K; clear K)
      | (refine own_alloc 11 (words 8 fun _ => 0) O rfl rfl rfl (fun _ => by kernel_rfl) ?_; clear O; intro W a11 O; simp only [Act.put, List.setIfInBounds_toArray, List.set_cons_zero, List.set_cons_succ])
      | (refine own_store_row 0 (.tmp 11) (.tmp 32) O rfl rfl rfl rfl rfl rfl (by kernel_rfl) (by simp only [words_size]) (words_cell _ _) ?_; clear O; intro W O; simp only [List.set_cons_zero] at O)
      | (refine own_load_w 39 1 O rfl rfl rfl rfl rfl Try.underlying33 rfl (by kernel_rfl) ?_; simp only [Act.put, List.setIfInBounds_toArray, List.set_cons_zero, List.set_cons_succ])
      | (refine own_load_w 40 0 O rfl rfl rfl rfl rfl Try.underlying33 rfl (by kernel_rfl) ?_; simp only [Act.put, List.setIfInBounds_toArray, List.set_cons_zero, List.set_cons_succ])
      | (go_at_call 29; (with_reducible refine Calls.mono (K1.out (some ⟨g1, 0, none⟩) c1' _ (HB.out.kept O.keep) (Byt.of_blk (O.get 2 rfl) t1)) ?_); rintro e W ⟨rfl, K⟩; replace O := O.keeps K; clear K))
    go_ret
    exact ⟨rfl, O.keep⟩
  · try simp only [List.getElem_toArray, List.getElem_cons_zero, List.getElem_cons_succ]
    go_wp2_with (refine own_alloc 8 (words 8 fun _ => 0) O rfl rfl rfl (fun _ => by kernel_rfl) ?_; clear O; intro W a8 O; simp only [Act.put, List.setIfInBounds_toArray, List.set_cons_zero, List.set_cons_succ])
    (first | refine back_intro2 (by first | exact O | exact O.drop_ 1) ?_ | refine back_intro (by first | exact O | exact O.drop_ 1) ?_)
    refine seg_sole 6 #[true, true, true, true, true, true, true, false, false, false, false, true, false, false, false] rfl (by kernel_rfl) ?_
    try simp only [List.getElem_toArray, List.getElem_cons_zero, List.getElem_cons_succ]
    go_wp2_with (first | (go_at_call 45; (with_reducible refine Calls.mono (C1.out (some ⟨g1, 0, none⟩) c1' _ (Byt.of_blk (O.get 0 rfl) (fun j hj => by rw [t1 j (by omega), WL.out j hj])) (by omega)) ?_); rintro e W ⟨rfl, K⟩; replace O := O.keeps K; clear K) | (go_at_call 45; (with_reducible refine Calls.mono (C1.out (some ⟨g1, 0, none⟩) c1' _ (Byt.of_blk (O.get 1 rfl) (fun j hj => by rw [t1 j (by omega), WL.out j hj])) (by omega)) ?_); rintro e W ⟨rfl, K⟩; replace O := O.keeps K; clear K))
    (first | refine back_intro2 (by first | exact O | exact O.drop_ 1) ?_ | refine back_intro (by first | exact O | exact O.drop_ 1) ?_)
    refine seg_take (fuel := 3) (L' := #[true, true, true, true, true, true, true, true, true, true, true, true, false, false, false]) (by kernel_rfl) (fun _ _ _ _ _ _ h => h) (by first | exact O | exact O.drop_ 1) [7, 8, 9, 10] [_, _, _, _] _ _ rfl (by kernel_rfl) ?_
    simp only [List.getElem_toArray, List.getElem_cons_zero, List.getElem_cons_succ]
    repeat (first
      | (refine take_pure (v := ?_) (by rfl) ?_ ?_; rotate_left; (· (intro w hSw; clear hSw; go_simp; try with_reducible rfl)); simp only [Act.put, List.setIfInBounds_toArray, List.set_cons_zero, List.set_cons_succ]))
    refine take_done ?_
    refine seg_sole 12 #[true, true, true, true, true, true, true, true, true, true, true, true, true, false, false] rfl (by kernel_rfl) ?_
    try simp only [List.getElem_toArray, List.getElem_cons_zero, List.getElem_cons_succ]
    go_wp2_with (refine own_store_row 0 (.tmp 8) (.tmp 24) O rfl rfl rfl rfl rfl rfl (by kernel_rfl) (by simp only [words_size]) (words_cell _ _) ?_; clear O; intro W O; simp only [List.set_cons_zero] at O)
    (first | refine back_intro2 (by first | exact O | exact O.drop_ 1) ?_ | refine back_intro (by first | exact O | exact O.drop_ 1) ?_)
    refine seg_take (fuel := 0) (L' := #[true, true, true, true, true, true, true, true, true, true, true, true, true, true, true]) (by kernel_rfl) (fun _ _ _ _ _ _ h => h) (by first | exact O | exact O.drop_ 1) [13, 14] [_, _] _ _ rfl (by kernel_rfl) ?_
    simp only [List.getElem_toArray, List.getElem_cons_zero, List.getElem_cons_succ]
    repeat (first
      | (refine take_pure (v := ?_) (by rfl) ?_ ?_; rotate_left; (· (intro w hSw; clear hSw; go_simp; try with_reducible rfl)); simp only [Act.put, List.setIfInBounds_toArray, List.set_cons_zero, List.set_cons_succ]))
    refine take_done ?_
    refine seg_done (by kernel_rfl) ?_
    go_wp2_with (first
      | (refine own_load 28 2 O rfl rfl rfl rfl rfl Try.underlying33 rfl (by kernel_rfl) ?_; simp only [Act.put, List.setIfInBounds_toArray, List.set_cons_zero, List.set_cons_succ])
      | (go_at_call 46; (with_reducible refine Calls.mono (C2.out A c _ (HB.out.kept O.keep) HC.out) ?_); rintro e W ⟨rfl, K⟩; replace O := O.keeps K; clear K)
      | (refine own_alloc 11 (words 8 fun _ => 0) O rfl rfl rfl (fun _ => by kernel_rfl) ?_; clear O; intro W a11 O; simp only [Act.put, List.setIfInBounds_toArray, List.set_cons_zero, List.set_cons_succ])
      | (refine own_store_row 0 (.tmp 11) (.tmp 32) O rfl rfl rfl rfl rfl rfl (by kernel_rfl) (by simp only [words_size]) (words_cell _ _) ?_; clear O; intro W O; simp only [List.set_cons_zero] at O)
      | (refine own_load_w 39 1 O rfl rfl rfl rfl rfl Try.underlying33 rfl (by kernel_rfl) ?_; simp only [Act.put, List.setIfInBounds_toArray, List.set_cons_zero, List.set_cons_succ])
      | (refine own_load_w 40 0 O rfl rfl rfl rfl rfl Try.underlying33 rfl (by kernel_rfl) ?_; simp only [Act.put, List.setIfInBounds_toArray, List.set_cons_zero, List.set_cons_succ])
      | (go_at_call 29; (with_reducible refine Calls.mono (K1.out (some ⟨g1, 0, none⟩) c1' _ (HB.out.kept O.keep) (Byt.of_blk (O.get 2 rfl) t1)) ?_); rintro e W ⟨rfl, K⟩; replace O := O.keeps K; clear K))
    go_ret
    exact ⟨rfl, O.keep⟩

set_option maxRecDepth 100000 in
theorem chains_lifted (os : Os) (started : os.Started) (H : Type) (enc : TypeId × Value → H) :
    ReturnsInHanded {} Try.checked os 12 .any (Rows.mixsChainsSpec.pre6 enc Try.prog Try.f12 Rows.mixsChainsRow.domain false) (Rows.mixsChainsSpec.post enc Try.prog Try.f12 false true false false) := by
  refine law_lifted (C := Try.checked) own started (by kernel_rfl) Try.func12 rfl (fun ds h => ?_) rfl Try.underlying4 laid ?_
    (ChangeSpec.witness6 (enc := enc) (C := Try.checked) false ⟨#[], #[.agg #[.int .u32 0, .int .u32 0, .int .u32 0, .int .u32 0, .int .u32 0, .int .u32 0, .int .u32 0, .int .u32 0], .slice none 0 0, .int .u64 0], []⟩ 8 (by kernel_rfl) (by kernel_rfl) (by kernel_rfl) (by kernel_rfl)) ?_
  · match ds, h with
    | [d0, d1, d2], _ => exact ⟨rfl, rfl, rfl⟩
  · intro t ht
    have ht' : t ∈ ([33, 32, 46] : List TypeId) := ht
    simp only [List.mem_cons, List.not_mem_nil, or_false] at ht'
    rcases ht' with rfl | rfl | rfl
    all_goals exact ⟨by kernel_rfl, of_decide_eq_true (by kernel_rfl)⟩
  · intro W base args ds ps hval hA hlt hfz hsz
    have hA' : DataW.TrodAll enc Try.prog W 0 (fun _ => true) true [33, 32, 46] args.toList ds ps := hA
    clear hA
    obtain ⟨v0, v1, v2, d0, d1, d2, p0, p1, p2, hargs, rfl, rfl, h0, h1, h2⟩ := trodAll_three hA'
    obtain rfl : args = #[v0, v1, v2] := by cases args; simp_all
    obtain ⟨V, rfl⟩ := open_words (n := 8) Try.underlying33 Try.underlying22 (ts := List.replicate 8 22) (by kernel_rfl) rfl (by kernel_rfl) (fun u hu => List.eq_of_mem_replicate hu) (hval 0 33 v0 rfl rfl)
    obtain ⟨A, n, c, f, rfl, hb, hn, hA, hnc⟩ := open_bytes2 (hval 1 32 v1 rfl rfl) h1 (fun q hq => hlt q (by simp [hq])) (fun e s he => by
      subst he
      have hsz' : (DataW.weightsEach Try.prog [33, 32, 46] [d0, .slice e s, d2]).all (· ≤ reachBytes) = true := hsz
      exact of_decide_eq_true (List.all_eq_true.1 hsz' _ (DataW.weights_mem_each (j := 1) (t := 32) rfl rfl ((e.length + s.length) * Try.prog.bytesOf 5) (by simp [DataW.weights, Try.underlying32]))))
    obtain ⟨cnt, rfl⟩ := open_u64 (hval 2 46 v2 rfl rfl) h2
    exact (chains_walk V A n c f cnt W hb hn hA hnc).mono fun e W' ⟨he, hk⟩ => ⟨he, hk.below⟩

theorem chains_holds : Rows.MixsChainsSaid :=
  OpenClaim.holds_of_wide 12 Try.f12 rfl rfl rfl rfl rfl rfl rfl ⟨rfl, rfl, rfl, rfl, rfl⟩ rfl rfl rfl rfl rfl (by kernel_rfl) Try.func12 (by kernel_rfl)
    (of_decide_eq_true (by kernel_rfl)) (by unfold Func.isWrapper; rw [if_neg (of_decide_eq_false (by kernel_rfl))]; exact ⟨rfl, rfl⟩)
    (fun os started H enc _ => chains_lifted os started H enc)
end Go.Proofs.Ytanibkocihjgjaa

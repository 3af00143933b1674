/-
  MixsWords: words, bytes, beginnings of chains of mixs are the reference's, and answers are new memory; the law returns true for every input.
-/
import Derived.Test.YtanibkocihjgjaaB3
namespace Go.Proofs.Ytanibkocihjgjaa
open Go.ChangeShapes Go.WideShapes Go.ChangeAt Go.RowKit

theorem Own.lose {w W W' : World} {S : List Nat} {L : List Ent} {g : Nat} {t : TypeId} {cs : Array Value} (O : Own w W S L) (k : Nat) (hk : L[k]? = some (g, t, cs)) (K : Keeps W W' [g]) : Own w W' S (L.eraseIdx k) := by
  refine ⟨O.keep.trans K fun b hb hlt => ?_, fun e he => ?_, fun e he => O.new e (List.mem_of_mem_eraseIdx he), ?_⟩
  · obtain rfl : b = g := by simpa using hb
    exact O.new _ (List.mem_of_getElem? hk) hlt
  · obtain ⟨i, hi, hne⟩ : ∃ i, L[i]? = some e ∧ i ≠ k := by
      obtain ⟨i, hi⟩ := List.getElem?_of_mem he
      rw [List.getElem?_eraseIdx] at hi
      by_cases h : i < k
      · rw [if_pos h] at hi; exact ⟨i, hi, by omega⟩
      · rw [if_neg h] at hi; exact ⟨i + 1, hi, by omega⟩
    have h := O.apart hi hk hne
    exact (O.blk e (List.mem_of_getElem? hi)).keeps K (by simpa using h)
  · exact List.Pairwise.sublist ((List.eraseIdx_sublist _ _).map _) O.nd

theorem wide_low (n : Nat) (f : Nat → BitVec 8) (j : Nat) (h : j < n) : wideF n f j = f j := by unfold wideF cat; rw [if_pos h]

set_option maxRecDepth 100000 in
set_option maxHeartbeats 4000000 in
theorem words_walk (A : Option Addr) (n c : Nat) (f : Nat → BitVec 8) (A2 : Option Addr) (n2 c2 : Nat) (f2 : Nat → BitVec 8) (H : Nat → BitVec 32) (w : World) (hb : Byt w A n f) (hn : n ≤ 140737488351232) (hA : A = none → n = 0 ∧ c = 0) (hb2 : Byt w A2 n2 f2) (hn2 : n2 ≤ 140737488351232) (hA2 : A2 = none → n2 = 0 ∧ c2 = 0) :
    Calls Try.prog 4 #[.slice A n c, .slice A2 n2 c2, .agg (words 8 H)] w fun e w' => e = .returned (.bool true) ∧ Keeps w w' [] := by
  have O := Own.start w []
  have hm : n ≤ maxLen := by simp only [maxLen]; omega
  have hm2 : n2 ≤ maxLen := by simp only [maxLen]; omega
  have D1 := Lib.hid fun W (h : Byt W A n f) => wide_any A n c f W h hn hA
  have D2 := Lib.hid fun W (h : Byt W A2 n2 f2) => wide_any A2 n2 c2 f2 W h hn2 hA2
  have G1 := Lib.hid fun A c W (h : Byt W A n f) => words_any A n c f W h hm
  have G2 := Lib.hid fun A c W (h : Byt W A n f) => refwords_any A n c f W h hm
  have G3 := Lib.hid fun A c W (h : Byt W A n2 f2) => start_any A n2 c f2 W h hm2
  have G4 := Lib.hid fun A c W (h : Byt W A n2 f2) => refstart_any A n2 c f2 W h hm2
  have K1 := Lib.hid fun B m W (h : Byt W A n f) (h' : Byt W B (n + 70) (wideF n f)) => kept_any A B n c m f W h hn hA h'
  have K2 := Lib.hid fun B m W (h : Byt W A2 n2 f2) (h' : Byt W B (n2 + 70) (wideF n2 f2)) => kept_any A2 B n2 c2 m f2 W h hn2 hA2 h'
  have B1 := Lib.hid fun W => bytes_any H W
  have B2 := Lib.hid fun W => refbytes_any H W
  have HB := Lib.hid hb
  have HB2 := Lib.hid hb2
  have WL := Lib.hid (wide_low n f)
  have WL2 := Lib.hid (wide_low n2 f2)
  have z1 : (0 : Int) ≤ n := by omega
  have z2 : (0 : Int) ≤ n2 := by omega
  clear hb hn hA hm hb2 hn2 hA2 hm2
  generalize wSt n f = R at *
  generalize sSt n2 f2 = T at *
  generalize wEr n 64 = E at *
  generalize wEr n2 32 = D at *
  generalize bV H = F at *
  have n1 := eqW_self 16 R
  have n3 := eqW_self 8 T
  have n4 := eqW_self 8 ivV
  go_enter Try.func4, Try.ntmps4
  go_wp2_with (first
    | (refine own_box 5 (words 8 H) O rfl rfl rfl rfl ?_; clear O; intro W a5 O; simp only [Act.put, List.setIfInBounds_toArray, List.set_cons_zero, List.set_cons_succ])
    | (go_at_call 18; (with_reducible refine Calls.mono (D1.out _ (HB.out.kept O.keep)) ?_); rintro e W ⟨K, g1, c1', cur1, rfl, hg1, b1, p1, x1, s1, t1⟩; replace O := O.fresh K hg1 b1; clear K hg1 b1; have y1 : (n : Int) ≤ c1' := by omega)
    | (go_at_call 18; (with_reducible refine Calls.mono (D2.out _ (HB2.out.kept O.keep)) ?_); rintro e W ⟨K, g2, c2', cur2, rfl, hg2, b2, p2, x2, s2, t2⟩; replace O := O.fresh K hg2 b2; clear K hg2 b2; have y2 : (n2 : Int) ≤ c2' := by omega)
    | (go_at_call 19; (with_reducible refine Calls.mono (G1.out (some ⟨g1, 0, none⟩) c1' _ (Byt.of_blk (O.get 1 rfl) (fun j hj => by rw [t1 j (by omega), WL.out j hj]))) ?_); rintro e W ⟨rfl, K⟩; replace O := O.keeps K; clear K)
    | (refine own_alloc 9 (words 16 fun _ => 0) O rfl rfl rfl (fun _ => by kernel_rfl) ?_; clear O; intro W a9 O; simp only [Act.put, List.setIfInBounds_toArray, List.set_cons_zero, List.set_cons_succ])
    | (refine own_store_row 0 (.tmp 9) (.tmp 29) O rfl rfl rfl rfl rfl rfl (by kernel_rfl) (by simp only [words_size]) (words_cell _ _) ?_; clear O; intro W O; simp only [List.set_cons_zero] at O)
    | (go_at_call 20; (with_reducible refine Calls.mono (G2.out A c _ (HB.out.kept O.keep)) ?_); rintro e W ⟨rfl, K⟩; replace O := O.keeps K; clear K)
    | (refine own_alloc 11 (words 16 fun _ => 0) O rfl rfl rfl (fun _ => by kernel_rfl) ?_; clear O; intro W a11 O; simp only [Act.put, List.setIfInBounds_toArray, List.set_cons_zero, List.set_cons_succ])
    | (refine own_store_row 0 (.tmp 11) (.tmp 34) O rfl rfl rfl rfl rfl rfl (by kernel_rfl) (by simp only [words_size]) (words_cell _ _) ?_; clear O; intro W O; simp only [List.set_cons_zero] at O)
    | (refine own_load_w 40 1 O rfl rfl rfl rfl rfl Try.underlying23 rfl (by kernel_rfl) ?_; simp only [Act.put, List.setIfInBounds_toArray, List.set_cons_zero, List.set_cons_succ])
    | (refine own_load_w 41 0 O rfl rfl rfl rfl rfl Try.underlying23 rfl (by kernel_rfl) ?_; simp only [Act.put, List.setIfInBounds_toArray, List.set_cons_zero, List.set_cons_succ])
    | (go_at_call 21; (with_reducible refine Calls.mono (G3.out (some ⟨g2, 0, none⟩) c2' _ (Byt.of_blk (O.get 2 rfl) (fun j hj => by rw [t2 j (by omega), WL2.out j hj]))) ?_); rintro e W ⟨rfl, K⟩; replace O := O.keeps K; clear K)
    | (refine own_alloc 13 (words 8 fun _ => 0) O rfl rfl rfl (fun _ => by kernel_rfl) ?_; clear O; intro W a13 O; simp only [Act.put, List.setIfInBounds_toArray, List.set_cons_zero, List.set_cons_succ])
    | (refine own_store_row 0 (.tmp 13) (.tmp 50) O rfl rfl rfl rfl rfl rfl (by kernel_rfl) (by simp only [words_size]) (words_cell _ _) ?_; clear O; intro W O; simp only [List.set_cons_zero] at O)
    | (go_at_call 22; (with_reducible refine Calls.mono (G4.out A2 c2 _ (HB2.out.kept O.keep)) ?_); rintro e W ⟨rfl, K⟩; replace O := O.keeps K; clear K)
    | (refine own_alloc 14 (words 8 fun _ => 0) O rfl rfl rfl (fun _ => by kernel_rfl) ?_; clear O; intro W a14 O; simp only [Act.put, List.setIfInBounds_toArray, List.set_cons_zero, List.set_cons_succ])
    | (refine own_store_row 0 (.tmp 14) (.tmp 55) O rfl rfl rfl rfl rfl rfl (by kernel_rfl) (by simp only [words_size]) (words_cell _ _) ?_; clear O; intro W O; simp only [List.set_cons_zero] at O)
    | (refine own_load_w 61 1 O rfl rfl rfl rfl rfl Try.underlying33 rfl (by kernel_rfl) ?_; simp only [Act.put, List.setIfInBounds_toArray, List.set_cons_zero, List.set_cons_succ])
    | (refine own_load_w 62 0 O rfl rfl rfl rfl rfl Try.underlying33 rfl (by kernel_rfl) ?_; simp only [Act.put, List.setIfInBounds_toArray, List.set_cons_zero, List.set_cons_succ])
    | (go_at_call 23; refine (iv_any _).mono ?_; rintro e W ⟨rfl, K⟩; replace O := O.keeps K; clear K)
    | (go_at_call 24; refine (refiv_any _).mono ?_; rintro e W ⟨rfl, K⟩; replace O := O.keeps K; clear K))
  refine wp_held (S := fun u => Own w u [] ((a14, 33, words 8 T) :: (a13, 33, words 8 T) :: (a11, 23, words 16 R) :: (a9, 23, words 16 R) :: (g2, 5, cur2) :: (g1, 5, cur1) :: (a5, 33, words 8 H) :: [])) 6 #[false, false, false, false, false, false] (by kernel_rfl) rfl rfl ?_
  replace O := O.drew
  refine seg_take (fuel := 4) (L' := #[true, false, true, false, false, false]) (by kernel_rfl) (fun _ _ _ _ _ _ h => h) (by first | exact O | exact O.drop_ 1 | exact O.drop_ 2) [0, 2] [_, _] _ _ rfl (by kernel_rfl) ?_
  simp only [List.getElem_toArray, List.getElem_cons_zero, List.getElem_cons_succ]
  repeat (first
    | (refine take_load 70 rfl (by rfl) rfl rfl (fun _ h => Own.get h 6 rfl) Try.underlying33 rfl (by kernel_rfl) ?_; simp only [Act.put, List.setIfInBounds_toArray, List.set_cons_zero, List.set_cons_succ])
    | (refine take_load 72 rfl (by rfl) rfl rfl (fun _ h => Own.get h 6 rfl) Try.underlying33 rfl (by kernel_rfl) ?_; simp only [Act.put, List.setIfInBounds_toArray, List.set_cons_zero, List.set_cons_succ])
    | (refine take_pure (v := ?_) (by rfl) ?_ ?_; rotate_left; (· (intro w hSw; clear hSw; go_simp; try with_reducible rfl)); simp only [Act.put, List.setIfInBounds_toArray, List.set_cons_zero, List.set_cons_succ]))
  refine take_done ?_
  refine seg_sole 1 #[true, true, true, false, false, false] rfl (by kernel_rfl) ?_
  try simp only [List.getElem_toArray, List.getElem_cons_zero, List.getElem_cons_succ]
  go_wp2_with (go_at_call 25; refine (B1.out _).mono ?_; rintro e W ⟨K, g3, c3', cur3, rfl, hg3, b3, p3, x3, s3, t3⟩; replace O := O.fresh K hg3 b3; clear K hg3 b3)
  (first | refine back_intro2 (by first | exact O | exact O.drop_ 1 | exact O.drop_ 2) ?_ | refine back_intro (by first | exact O | exact O.drop_ 1 | exact O.drop_ 2) ?_)
  refine seg_sole 3 #[true, true, true, true, false, false] rfl (by kernel_rfl) ?_
  try simp only [List.getElem_toArray, List.getElem_cons_zero, List.getElem_cons_succ]
  go_wp2_with (go_at_call 25; refine (B1.out _).mono ?_; rintro e W ⟨K, g4, c4', cur4, rfl, hg4, b4, p4, x4, s4, t4⟩; replace O := O.fresh K hg4 b4; clear K hg4 b4)
  (first | refine back_intro2 (by first | exact O | exact O.drop_ 1 | exact O.drop_ 2) ?_ | refine back_intro (by first | exact O | exact O.drop_ 1 | exact O.drop_ 2) ?_)
  refine seg_take (fuel := 0) (L' := #[true, true, true, true, true, true]) (by kernel_rfl) (fun _ _ _ _ _ _ h => h) (by first | exact O | exact O.drop_ 1 | exact O.drop_ 2) [4, 5] [_, _] _ _ rfl (by kernel_rfl) ?_
  simp only [List.getElem_toArray, List.getElem_cons_zero, List.getElem_cons_succ]
  repeat (first
    | (refine take_pure (v := ?_) (by rfl) ?_ ?_; rotate_left; (· (intro w hSw; clear hSw; go_simp; try with_reducible rfl)); simp only [Act.put, List.setIfInBounds_toArray, List.set_cons_zero, List.set_cons_succ]))
  refine take_done ?_
  refine seg_done (by kernel_rfl) ?_
  go_wp2_with (first
    | (go_at_call 26; refine (spoil_any g3 32 c3' cur3 F W (O.get 1 rfl) s3 p3 x3 t3 (by omega)).mono ?_; rintro e W ⟨rfl, K⟩; replace O := O.lose 1 rfl K; clear K; simp only [List.eraseIdx_cons_zero, List.eraseIdx_cons_succ] at O)
    | (refine own_load 76 7 O rfl rfl rfl rfl rfl Try.underlying33 rfl (by kernel_rfl) ?_; simp only [Act.put, List.setIfInBounds_toArray, List.set_cons_zero, List.set_cons_succ])
    | (go_at_call 25; refine (B1.out _).mono ?_; rintro e W ⟨K, g5, c5', cur5, rfl, hg5, b5, p5, x5, s5, t5⟩; replace O := O.fresh K hg5 b5; clear K hg5 b5)
    | (refine own_load 78 8 O rfl rfl rfl rfl rfl Try.underlying33 rfl (by kernel_rfl) ?_; simp only [Act.put, List.setIfInBounds_toArray, List.set_cons_zero, List.set_cons_succ])
    | (go_at_call 27; refine (B2.out _).mono ?_; rintro e W ⟨K, g6, c6', cur6, rfl, hg6, b6, p6, x6, s6, t6⟩; replace O := O.fresh K hg6 b6; clear K hg6 b6)
    | (go_at_call 28; (with_reducible refine Calls.mono (same_true (some ⟨g4, 0, none⟩) (some ⟨g6, 0, none⟩) 32 c4' c6' F _ (Byt.of_blk (O.get 2 rfl) t4) (Byt.of_blk (O.get 0 rfl) t6) (by simp [maxLen])) ?_); rintro e W ⟨rfl, K⟩; replace O := O.keeps K; clear K)
    | (go_at_call 28; (with_reducible refine Calls.mono (same_true (some ⟨g5, 0, none⟩) (some ⟨g6, 0, none⟩) 32 c5' c6' F _ (Byt.of_blk (O.get 1 rfl) t5) (Byt.of_blk (O.get 0 rfl) t6) (by simp [maxLen])) ?_); rintro e W ⟨rfl, K⟩; replace O := O.keeps K; clear K)
    | (go_at_call 29; (with_reducible refine Calls.mono (K1.out (some ⟨g1, 0, none⟩) c1' _ (HB.out.kept O.keep) (Byt.of_blk (O.get 8 rfl) t1)) ?_); rintro e W ⟨rfl, K⟩; replace O := O.keeps K; clear K)
    | (go_at_call 29; (with_reducible refine Calls.mono (K2.out (some ⟨g2, 0, none⟩) c2' _ (HB2.out.kept O.keep) (Byt.of_blk (O.get 7 rfl) t2)) ?_); rintro e W ⟨rfl, K⟩; replace O := O.keeps K; clear K))
  go_ret
  exact ⟨rfl, O.keep⟩

set_option maxRecDepth 100000 in
theorem words_lifted (os : Os) (started : os.Started) (H : Type) (enc : TypeId × Value → H) :
    ReturnsInHanded {} Try.checked os 4 .any (Rows.mixsWordsSpec.pre6 enc Try.prog Try.f4 Rows.mixsWordsRow.domain false) (Rows.mixsWordsSpec.post enc Try.prog Try.f4 false true false false) := by
  refine law_lifted (C := Try.checked) own started (by kernel_rfl) Try.func4 rfl (fun ds h => ?_) rfl Try.underlying4 laid ?_
    (ChangeSpec.witness6 (enc := enc) (C := Try.checked) false ⟨#[], #[.slice none 0 0, .slice none 0 0, .agg #[.int .u32 0, .int .u32 0, .int .u32 0, .int .u32 0, .int .u32 0, .int .u32 0, .int .u32 0, .int .u32 0]], []⟩ 8 (by kernel_rfl) (by kernel_rfl) (by kernel_rfl) (by kernel_rfl)) ?_
  · match ds, h with
    | [d0, d1, d2], _ => exact ⟨rfl, rfl, rfl⟩
  · intro t ht
    have ht' : t ∈ ([32, 32, 33] : List TypeId) := ht
    simp only [List.mem_cons, List.not_mem_nil, or_false] at ht'
    rcases ht' with rfl | rfl | rfl
    all_goals exact ⟨by kernel_rfl, of_decide_eq_true (by kernel_rfl)⟩
  · intro W base args ds ps hval hA hlt hfz hsz
    have hA' : DataW.TrodAll enc Try.prog W 0 (fun _ => true) true [32, 32, 33] args.toList ds ps := hA
    clear hA
    obtain ⟨v0, v1, v2, d0, d1, d2, p0, p1, p2, hargs, rfl, rfl, h0, h1, h2⟩ := trodAll_three hA'
    obtain rfl : args = #[v0, v1, v2] := by cases args; simp_all
    obtain ⟨A, n, c, f, rfl, hb, hn, hA⟩ := open_bytes (hval 0 32 v0 rfl rfl) h0 (fun q hq => hlt q (by simp [hq])) (fun e s he => by
      subst he
      have hsz' : (DataW.weightsEach Try.prog [32, 32, 33] [.slice e s, d1, d2]).all (· ≤ reachBytes) = true := hsz
      exact of_decide_eq_true (List.all_eq_true.1 hsz' _ (DataW.weights_mem_each (j := 0) (t := 32) rfl rfl ((e.length + s.length) * Try.prog.bytesOf 5) (by simp [DataW.weights, Try.underlying32]))))
    obtain ⟨A2, n2, c2, f2, rfl, hb2, hn2, hA2⟩ := open_bytes (hval 1 32 v1 rfl rfl) h1 (fun q hq => hlt q (by simp [hq])) (fun e s he => by
      subst he
      have hsz' : (DataW.weightsEach Try.prog [32, 32, 33] [d0, .slice e s, d2]).all (· ≤ reachBytes) = true := hsz
      exact of_decide_eq_true (List.all_eq_true.1 hsz' _ (DataW.weights_mem_each (j := 1) (t := 32) rfl rfl ((e.length + s.length) * Try.prog.bytesOf 5) (by simp [DataW.weights, Try.underlying32]))))
    obtain ⟨V, rfl⟩ := open_words (n := 8) Try.underlying33 Try.underlying22 (ts := List.replicate 8 22) (by kernel_rfl) rfl (by kernel_rfl) (fun u hu => List.eq_of_mem_replicate hu) (hval 2 33 v2 rfl rfl)
    exact (words_walk A n c f A2 n2 c2 f2 V W hb hn hA hb2 hn2 hA2).mono fun e W' ⟨he, hk⟩ => ⟨he, hk.below⟩

theorem words_holds : Rows.MixsWordsSaid :=
  OpenClaim.holds_of_wide 4 Try.f4 rfl rfl rfl rfl rfl rfl rfl ⟨rfl, rfl, rfl, rfl, rfl⟩ rfl rfl rfl rfl rfl (by kernel_rfl) Try.func4 (by kernel_rfl)
    (of_decide_eq_true (by kernel_rfl)) (by unfold Func.isWrapper; rw [if_neg (of_decide_eq_false (by kernel_rfl))]; exact ⟨rfl, rfl⟩)
    (fun os started H enc _ => words_lifted os started H enc)
end Go.Proofs.Ytanibkocihjgjaa

/-
  MixsParts, where what comes in is of bulk at most 1048576: without the document: a chain over two runs of blocks is that over the first, and on over the second; the law returns true.
-/
import Derived.Test.YtanibkocihjgjaaB5
import Derived.JoinedCond
import Derived.Deep.CondSized
namespace Go.Proofs.Ytanibkocihjgjaa
open Go.ChangeShapes Go.WideShapes Go.ChangeAt Go.RowKit

/-! ### What the bound gives -/
theorem bulk_one {H : Type} (d : DataW H) : 1 ≤ Rows.uptoBulk d := by
  cases d with
  | lit l => cases l <;> simp [Rows.uptoBulk]
  | _ => simp [Rows.uptoBulk]
theorem bulk_part {H : Type} {d : DataW H} {l : List (DataW H)} (h : d ∈ l) : Rows.uptoBulk d ≤ Rows.uptoBulkAll l := by
  induction l with
  | nil => cases h
  | cons x r ih =>
    simp only [Rows.uptoBulkAll]
    rcases List.mem_cons.1 h with e | e
    · subst e; omega
    · have := ih e; omega
theorem bulk_length {H : Type} (l : List (DataW H)) : l.length ≤ Rows.uptoBulkAll l := by
  induction l with
  | nil => simp [Rows.uptoBulkAll]
  | cons x r ih => have := bulk_one x; simp only [Rows.uptoBulkAll, List.length_cons]; omega
theorem bulk_slice {H : Type} (e s : List (DataW H)) : e.length + s.length ≤ Rows.uptoBulk (.slice e s) := by
  have h1 := bulk_length e
  have h2 := bulk_length s
  simp only [Rows.uptoBulk]
  omega

/-! ### The plain law -/
theorem rndK_msg {M M' : Nat → BitVec 32} (h : ∀ i, i < 16 → M i = M' i) (q : Nat) (hq : q < 10) (V : Nat → BitVec 32) : ∀ k, k ≤ 8 → rndK M q V k = rndK M' q V k
  | 0, _ => rfl
  | k + 1, hk => by
    show mixV (rndK M q V k) _ _ _ _ _ _ = mixV (rndK M' q V k) _ _ _ _ _ _
    rw [rndK_msg h q hq V k (by omega), h _ (sig_lt q (2 * k) hq (by omega)), h _ (sig_lt q (2 * k + 1) hq (by omega))]
theorem fK_msg {M M' : Nat → BitVec 32} (h : ∀ i, i < 16 → M i = M' i) (V : Nat → BitVec 32) : ∀ k, fK M V k = fK M' V k
  | 0 => rfl
  | k + 1 => by
    show rndK M _ (fK M V k) 8 = rndK M' _ (fK M' V k) 8
    rw [fK_msg h V k, rndK_msg h _ (row_lt _) _ 8 (by omega)]
theorem fV_msg {M M' : Nat → BitVec 32} (h : ∀ i, i < 16 → M i = M' i) (H : Nat → BitVec 32) (n : BitVec 64) (l d : Bool) : fV H M n l d = fV H M' n l d := by
  unfold fV
  rw [fK_msg h]
theorem wV_part {f g : Nat → BitVec 8} (h : ∀ j, j < 64 → f j = g j) (i : Nat) (hi : i < 16) : wV f i = wV g i := by
  simp only [wV, ld32, h (4 * i + 0) (by omega), h (4 * i + 1) (by omega), h (4 * i + 2) (by omega), h (4 * i + 3) (by omega)]
theorem chH_first (H : Nat → BitVec 32) (f g : Nat → BitVec 8) (n : Nat) (cnt : BitVec 64) : ∀ k, 64 * k ≤ n → chH H (cat n f g) cnt k = chH H f cnt k
  | 0, _ => rfl
  | k + 1, h => by
    show fV (chH H (cat n f g) cnt k) _ _ _ _ = fV (chH H f cnt k) _ _ _ _
    rw [chH_first H f g n cnt k (by omega)]
    exact fV_msg (fun i hi => wV_part (fun j hj => by unfold cat; rw [if_pos (by omega)]) i hi) _ _ _ _
theorem ctK_add (cnt : BitVec 64) (a : Nat) : ∀ b, ctK cnt (a + b) = ctK (ctK cnt a) b
  | 0 => rfl
  | b + 1 => by
    show ctK cnt (a + b) + 64#64 = ctK (ctK cnt a) b + 64#64
    rw [ctK_add cnt a b]
theorem chH_second (H : Nat → BitVec 32) (f g : Nat → BitVec 8) (N : Nat) (cnt : BitVec 64) : ∀ k, chH H (cat (64 * N) f g) cnt (N + k) = chH (chH H f cnt N) g (ctK cnt N) k
  | 0 => chH_first H f g (64 * N) cnt N (by omega)
  | k + 1 => by
    show fV (chH H (cat (64 * N) f g) cnt (N + k)) _ (ctK cnt (N + (k + 1))) _ _ = fV (chH (chH H f cnt N) g (ctK cnt N) k) _ (ctK (ctK cnt N) (k + 1)) _ _
    rw [chH_second H f g N cnt k, ctK_add]
    exact fV_msg (fun i hi => wV_part (fun j hj => by rw [show N.add k = N + k from rfl]; unfold cat; rw [if_neg (by omega), show 64 * (N + k) + j - 64 * N = 64 * k + j from by omega]) i hi) _ _ _ _
theorem ctK_sum (cnt : BitVec 64) : ∀ k, ctK cnt k = cnt + BitVec.ofNat 64 (64 * k)
  | 0 => by simp [ctK]
  | k + 1 => by
    show ctK cnt k + 64#64 = _
    rw [ctK_sum cnt k, BitVec.add_assoc]
    congr 1
    apply BitVec.eq_of_toNat_eq
    simp only [BitVec.toNat_add, BitVec.toNat_ofNat]
    omega

theorem Mine.open_ {w W : World} {v : Value} {n : Nat} {f : Nat → BitVec 8} {S : List Nat} {L : List Ent} (h : Mine w W v n f) (O : Own w W S L) (hL : ∀ q ∈ L, q.2.1 ≠ 5) :
    ∃ (A : Option Addr) (c : Nat) (X : List Ent), v = .slice A n c ∧ n ≤ c ∧ Own w W S (L ++ X) ∧ (∀ W' : World, (∀ e ∈ X, Blk W' e.1 e.2.1 e.2.2) → Byt W' A n f) := by
  rcases h.2 with ⟨rfl, hnil⟩ | ⟨g, cap, cur, rfl, hb, hgg, hnc, hcm, hcc, htake⟩
  · have hn : n = 0 := by
      have := h.1
      have e : (bl n f).length = 0 := by simp_all
      rwa [bl_length] at e
    subst hn
    exact ⟨none, 0, [], rfl, Nat.le_refl _, by rw [List.append_nil]; exact O, fun _ _ hn => by omega⟩
  · refine ⟨some ⟨g, 0, none⟩, cap, [(g, 5, cur)], rfl, hnc, ⟨O.keep, ?_, ?_, ?_⟩, fun W' hX hn => ⟨_, rfl, (hX (g, 5, cur) (by simp)).lt, fun j hj => ?_⟩⟩
    · intro e he
      rcases List.mem_append.1 he with he | he
      · exact O.blk e he
      · obtain rfl : e = (g, 5, cur) := by simpa using he
        exact hgg
    · intro e he hlt
      rcases List.mem_append.1 he with he | he
      · exact O.new e he hlt
      · obtain rfl : e = (g, 5, cur) := by simpa using he
        exact absurd hlt (Nat.not_lt.2 hb)
    · rw [List.map_append, List.nodup_append]
      refine ⟨O.nd, by simp, fun x hx y hy e => ?_⟩
      obtain ⟨q, hq, rfl⟩ := List.mem_map.1 hx
      obtain rfl : y = g := by simpa using hy
      have b := O.blk q hq
      rw [e] at b
      unfold Blk at b
      rw [hgg] at b
      injection b with b
      injection b with _ ht
      exact hL q hq ht.symm
    · have hc := (hX (g, 5, cur) (by simp)).cell j
      rw [add_zero_, hc]
      have e := congrArg (fun l => l[j]?) htake
      simp only [List.getElem?_take, bl_get, if_pos hj, Array.getElem?_toList] at e
      rw [if_pos (by omega)] at e
      exact e


set_option maxRecDepth 100000 in
set_option maxHeartbeats 4000000 in
theorem parts_walk0 (H M : Nat → BitVec 32) (cnt : BitVec 64) (last node : Bool) (A : Option Addr) (n c : Nat) (f : Nat → BitVec 8) (A2 : Option Addr) (n2 c2 : Nat) (f2 : Nat → BitVec 8) (w : World) (hb : Byt w A n f) (hn : n ≤ 1048576) (hA : A = none → n = 0 ∧ c = 0) (hnc : n ≤ c) (hb2 : Byt w A2 n2 f2) (hn2 : n2 ≤ 1048576) (hA2 : A2 = none → n2 = 0 ∧ c2 = 0) (hnc2 : n2 ≤ c2) (h1 : n % 64 ≠ 0) :
    Calls Try.prog 13 #[.agg (runC H M cnt last node), .slice A n c, .slice A2 n2 c2] w fun e w' => e = .returned (.bool true) ∧ Keeps w w' [] := by
  have O := Own.start w []
  obtain ⟨T, hT⟩ : ∃ T, T = n + n2 := ⟨_, rfl⟩
  obtain ⟨F, hF⟩ : ∃ F, F = cat n f f2 := ⟨_, rfl⟩
  have hm : n ≤ maxLen := by simp only [maxLen]; omega
  have hm2 : n2 ≤ maxLen := by simp only [maxLen]; omega
  have hmT : T ≤ maxLen := by simp only [maxLen]; omega
  obtain ⟨q, hq⟩ : ∃ q : Int, q = ((n % 64 : Nat) : Int) := ⟨_, rfl⟩
  have rm : (n : Int).tmod 64 = q := by rw [hq, Int.tmod_eq_emod_of_nonneg (by omega)]; omega
  have hq0 : (q != 0) = true := by rw [bne_iff_ne]; omega
  clear hq h1
  have HB := Lib.hid hb
  have HB2 := Lib.hid hb2
  have HN := Lib.hid (And.intro hn hn2)
  have HA := Lib.hid hA
  have HA2 := Lib.hid hA2
  have HT := Lib.hid hT
  have HF := Lib.hid hF
  clear hb hn hA hnc hb2 hn2 hA2 hnc2 hm hm2 hmT hT hF
  go_enter Try.func13, Try.ntmps13
  go_wp2_with (first
    | (refine own_box 3 (runC H M cnt last node) O rfl rfl rfl rfl ?_; clear O; intro W a3 O; simp only [Act.put, List.setIfInBounds_toArray, List.set_cons_zero, List.set_cons_succ]))
  have Q24 := Lib.hid (show ∀ u : World, Own w u [] ((a3, 48, runC H M cnt last node) :: []) → u.cell? ⟨a3, 24, none⟩ = some (U64 cnt) from fun u h => ((Own.get h 0 rfl).cell 24).trans (runC_r H M cnt last node 0))
  refine wp_held (S := fun u => Own w u [] ((a3, 48, runC H M cnt last node) :: [])) 7 #[false, false, false, false, false, false, false] (by kernel_rfl) rfl rfl ?_
  replace O := O.drew
  refine seg_take (fuel := 3) (L' := #[true, true, true, true, false, false, false]) (by kernel_rfl) (fun _ _ _ _ _ _ h => h) (by first | exact O | exact O.drop_ 1) [0, 1, 2, 3] [_, _, _, _] _ _ rfl (by kernel_rfl) ?_
  simp only [List.getElem_toArray, List.getElem_cons_zero, List.getElem_cons_succ]
  repeat (first
    | (refine take_load_part (part := words 8 H) 20 rfl (by rfl) rfl rfl (fun _ h => Own.get h 0 rfl) Try.underlying33 rfl (by kernel_rfl) ?_ ?_; (exact fun j hj => runC_H H M cnt last node j (by simpa [words_size] using hj)); simp only [Act.put, List.setIfInBounds_toArray, List.set_cons_zero, List.set_cons_succ])
    | (refine take_pure (v := ?_) (by rfl) ?_ ?_; rotate_left; (· (intro w hSw; have q24 := Q24.out _ hSw; clear hSw; go_simp; try with_reducible rfl)); simp only [Act.put, List.setIfInBounds_toArray, List.set_cons_zero, List.set_cons_succ]))
  refine take_done ?_
  refine seg_sole 4 #[true, true, true, true, true, false, false] rfl (by kernel_rfl) ?_
  try simp only [List.getElem_toArray, List.getElem_cons_zero, List.getElem_cons_succ]
  go_wp2_with (refine own_alloc 7 (words 8 fun _ => 0) O rfl rfl rfl (fun _ => by kernel_rfl) ?_; clear O; intro W a7 O; simp only [Act.put, List.setIfInBounds_toArray, List.set_cons_zero, List.set_cons_succ])
  (first | refine back_intro2 (by first | exact O | exact O.drop_ 1) ?_ | refine back_intro (by first | exact O | exact O.drop_ 1) ?_)
  refine seg_sole 5 #[true, true, true, true, true, true, false] rfl (by kernel_rfl) ?_
  try simp only [List.getElem_toArray, List.getElem_cons_zero, List.getElem_cons_succ]
  go_wp2_with (refine own_store_row 0 (.tmp 7) (.tmp 20) O rfl rfl rfl rfl rfl rfl (by kernel_rfl) (by simp only [words_size]) (words_cell _ _) ?_; clear O; intro W O; simp only [List.set_cons_zero] at O)
  (first | refine back_intro2 (by first | exact O | exact O.drop_ 1) ?_ | refine back_intro (by first | exact O | exact O.drop_ 1) ?_)
  refine seg_take (fuel := 0) (L' := #[true, true, true, true, true, true, true]) (by kernel_rfl) (fun _ _ _ _ _ _ h => h) (by first | exact O | exact O.drop_ 1) [6] [_] _ _ rfl (by kernel_rfl) ?_
  simp only [List.getElem_toArray, List.getElem_cons_zero, List.getElem_cons_succ]
  repeat (first
    | (refine take_pure (v := ?_) (by rfl) ?_ ?_; rotate_left; (· (intro w hSw; have q24 := Q24.out _ hSw; clear hSw; go_simp; try with_reducible rfl)); simp only [Act.put, List.setIfInBounds_toArray, List.set_cons_zero, List.set_cons_succ]))
  refine take_done ?_
  refine seg_done (by kernel_rfl) ?_
  go_wp2_with (first
    | (go_at_call 32; refine (alive_any _).mono ?_; rintro e W ⟨rfl, K⟩; replace O := O.keeps K; clear K; have M := Mine.nil w W f)
    | (at_builtin; refine own_append_byt (.slice none 0 0) 0 n c f f A (.tmp 25) (.tmp 26) O M rfl rfl rfl rfl HA.out (by simp) (HB.out.kept O.keep) (by have := HN.out; omega) ?_; clear O M; intro v27 W O M; simp only [Act.put, List.setIfInBounds_toArray, List.set_cons_zero, List.set_cons_succ]; replace M := M.congr (g := f) (fun i _ => by unfold cat; rw [if_neg (by omega), Nat.sub_zero]); rw [Nat.zero_add] at M)
    | (at_builtin; refine own_append_byt v27 n n2 c2 f f2 A2 (.tmp 28) (.tmp 29) O M rfl rfl rfl rfl HA2.out (by simp) (HB2.out.kept O.keep) (by have := HN.out; omega) ?_; clear O M; intro v30 W O M; simp only [Act.put, List.setIfInBounds_toArray, List.set_cons_zero, List.set_cons_succ]; rw [← HT.out, ← HF.out] at M; obtain ⟨A3, c3, X, rfl, hc3, O3, hX⟩ := M.open_ O (by simp); have HX := Lib.hid hX; have HC3 := Lib.hid hc3; clear O M hX hc3; have O := O3; clear O3))
  go_ret
  exact ⟨rfl, O.keep⟩

set_option maxRecDepth 100000 in
set_option maxHeartbeats 4000000 in
theorem parts_walk1 (H M : Nat → BitVec 32) (cnt : BitVec 64) (last node : Bool) (A : Option Addr) (n c : Nat) (f : Nat → BitVec 8) (A2 : Option Addr) (n2 c2 : Nat) (f2 : Nat → BitVec 8) (w : World) (hb : Byt w A n f) (hn : n ≤ 1048576) (hA : A = none → n = 0 ∧ c = 0) (hnc : n ≤ c) (hb2 : Byt w A2 n2 f2) (hn2 : n2 ≤ 1048576) (hA2 : A2 = none → n2 = 0 ∧ c2 = 0) (hnc2 : n2 ≤ c2) (h1 : n % 64 = 0) (h2 : n2 % 64 ≠ 0) :
    Calls Try.prog 13 #[.agg (runC H M cnt last node), .slice A n c, .slice A2 n2 c2] w fun e w' => e = .returned (.bool true) ∧ Keeps w w' [] := by
  have O := Own.start w []
  obtain ⟨T, hT⟩ : ∃ T, T = n + n2 := ⟨_, rfl⟩
  obtain ⟨F, hF⟩ : ∃ F, F = cat n f f2 := ⟨_, rfl⟩
  have hm : n ≤ maxLen := by simp only [maxLen]; omega
  have hm2 : n2 ≤ maxLen := by simp only [maxLen]; omega
  have hmT : T ≤ maxLen := by simp only [maxLen]; omega
  obtain ⟨q, hq⟩ : ∃ q : Int, q = ((n2 % 64 : Nat) : Int) := ⟨_, rfl⟩
  have rm : (n : Int).tmod 64 = 0 := by rw [Int.tmod_eq_emod_of_nonneg (by omega)]; omega
  have rm2 : (n2 : Int).tmod 64 = q := by rw [hq, Int.tmod_eq_emod_of_nonneg (by omega)]; omega
  have hq0 : (q != 0) = true := by rw [bne_iff_ne]; omega
  clear hq h1 h2
  have HB := Lib.hid hb
  have HB2 := Lib.hid hb2
  have HN := Lib.hid (And.intro hn hn2)
  have HA := Lib.hid hA
  have HA2 := Lib.hid hA2
  have HT := Lib.hid hT
  have HF := Lib.hid hF
  clear hb hn hA hnc hb2 hn2 hA2 hnc2 hm hm2 hmT hT hF
  go_enter Try.func13, Try.ntmps13
  go_wp2_with (first
    | (refine own_box 3 (runC H M cnt last node) O rfl rfl rfl rfl ?_; clear O; intro W a3 O; simp only [Act.put, List.setIfInBounds_toArray, List.set_cons_zero, List.set_cons_succ]))
  have Q24 := Lib.hid (show ∀ u : World, Own w u [] ((a3, 48, runC H M cnt last node) :: []) → u.cell? ⟨a3, 24, none⟩ = some (U64 cnt) from fun u h => ((Own.get h 0 rfl).cell 24).trans (runC_r H M cnt last node 0))
  refine wp_held (S := fun u => Own w u [] ((a3, 48, runC H M cnt last node) :: [])) 7 #[false, false, false, false, false, false, false] (by kernel_rfl) rfl rfl ?_
  replace O := O.drew
  refine seg_take (fuel := 3) (L' := #[true, true, true, true, false, false, false]) (by kernel_rfl) (fun _ _ _ _ _ _ h => h) (by first | exact O | exact O.drop_ 1) [0, 1, 2, 3] [_, _, _, _] _ _ rfl (by kernel_rfl) ?_
  simp only [List.getElem_toArray, List.getElem_cons_zero, List.getElem_cons_succ]
  repeat (first
    | (refine take_load_part (part := words 8 H) 20 rfl (by rfl) rfl rfl (fun _ h => Own.get h 0 rfl) Try.underlying33 rfl (by kernel_rfl) ?_ ?_; (exact fun j hj => runC_H H M cnt last node j (by simpa [words_size] using hj)); simp only [Act.put, List.setIfInBounds_toArray, List.set_cons_zero, List.set_cons_succ])
    | (refine take_pure (v := ?_) (by rfl) ?_ ?_; rotate_left; (· (intro w hSw; have q24 := Q24.out _ hSw; clear hSw; go_simp; try with_reducible rfl)); simp only [Act.put, List.setIfInBounds_toArray, List.set_cons_zero, List.set_cons_succ]))
  refine take_done ?_
  refine seg_sole 4 #[true, true, true, true, true, false, false] rfl (by kernel_rfl) ?_
  try simp only [List.getElem_toArray, List.getElem_cons_zero, List.getElem_cons_succ]
  go_wp2_with (refine own_alloc 7 (words 8 fun _ => 0) O rfl rfl rfl (fun _ => by kernel_rfl) ?_; clear O; intro W a7 O; simp only [Act.put, List.setIfInBounds_toArray, List.set_cons_zero, List.set_cons_succ])
  (first | refine back_intro2 (by first | exact O | exact O.drop_ 1) ?_ | refine back_intro (by first | exact O | exact O.drop_ 1) ?_)
  refine seg_sole 5 #[true, true, true, true, true, true, false] rfl (by kernel_rfl) ?_
  try simp only [List.getElem_toArray, List.getElem_cons_zero, List.getElem_cons_succ]
  go_wp2_with (refine own_store_row 0 (.tmp 7) (.tmp 20) O rfl rfl rfl rfl rfl rfl (by kernel_rfl) (by simp only [words_size]) (words_cell _ _) ?_; clear O; intro W O; simp only [List.set_cons_zero] at O)
  (first | refine back_intro2 (by first | exact O | exact O.drop_ 1) ?_ | refine back_intro (by first | exact O | exact O.drop_ 1) ?_)
  refine seg_take (fuel := 0) (L' := #[true, true, true, true, true, true, true]) (by kernel_rfl) (fun _ _ _ _ _ _ h => h) (by first | exact O | exact O.drop_ 1) [6] [_] _ _ rfl (by kernel_rfl) ?_
  simp only [List.getElem_toArray, List.getElem_cons_zero, List.getElem_cons_succ]
  repeat (first
    | (refine take_pure (v := ?_) (by rfl) ?_ ?_; rotate_left; (· (intro w hSw; have q24 := Q24.out _ hSw; clear hSw; go_simp; try with_reducible rfl)); simp only [Act.put, List.setIfInBounds_toArray, List.set_cons_zero, List.set_cons_succ]))
  refine take_done ?_
  refine seg_done (by kernel_rfl) ?_
  go_wp2_with (first
    | (go_at_call 32; refine (alive_any _).mono ?_; rintro e W ⟨rfl, K⟩; replace O := O.keeps K; clear K; have M := Mine.nil w W f)
    | (at_builtin; refine own_append_byt (.slice none 0 0) 0 n c f f A (.tmp 25) (.tmp 26) O M rfl rfl rfl rfl HA.out (by simp) (HB.out.kept O.keep) (by have := HN.out; omega) ?_; clear O M; intro v27 W O M; simp only [Act.put, List.setIfInBounds_toArray, List.set_cons_zero, List.set_cons_succ]; replace M := M.congr (g := f) (fun i _ => by unfold cat; rw [if_neg (by omega), Nat.sub_zero]); rw [Nat.zero_add] at M)
    | (at_builtin; refine own_append_byt v27 n n2 c2 f f2 A2 (.tmp 28) (.tmp 29) O M rfl rfl rfl rfl HA2.out (by simp) (HB2.out.kept O.keep) (by have := HN.out; omega) ?_; clear O M; intro v30 W O M; simp only [Act.put, List.setIfInBounds_toArray, List.set_cons_zero, List.set_cons_succ]; rw [← HT.out, ← HF.out] at M; obtain ⟨A3, c3, X, rfl, hc3, O3, hX⟩ := M.open_ O (by simp); have HX := Lib.hid hX; have HC3 := Lib.hid hc3; clear O M hX hc3; have O := O3; clear O3))
  go_ret
  exact ⟨rfl, O.keep⟩

set_option maxRecDepth 100000 in
set_option maxHeartbeats 4000000 in
theorem parts_walk2 (H M : Nat → BitVec 32) (cnt : BitVec 64) (last node : Bool) (A : Option Addr) (n c : Nat) (f : Nat → BitVec 8) (A2 : Option Addr) (n2 c2 : Nat) (f2 : Nat → BitVec 8) (w : World) (hb : Byt w A n f) (hn : n ≤ 1048576) (hA : A = none → n = 0 ∧ c = 0) (hnc : n ≤ c) (hb2 : Byt w A2 n2 f2) (hn2 : n2 ≤ 1048576) (hA2 : A2 = none → n2 = 0 ∧ c2 = 0) (hnc2 : n2 ≤ c2) (h1 : n % 64 = 0) (h2 : n2 % 64 = 0) :
    Calls Try.prog 13 #[.agg (runC H M cnt last node), .slice A n c, .slice A2 n2 c2] w fun e w' => e = .returned (.bool true) ∧ Keeps w w' [] := by
  have O := Own.start w []
  obtain ⟨T, hT⟩ : ∃ T, T = n + n2 := ⟨_, rfl⟩
  obtain ⟨F, hF⟩ : ∃ F, F = cat n f f2 := ⟨_, rfl⟩
  have hm : n ≤ maxLen := by simp only [maxLen]; omega
  have hm2 : n2 ≤ maxLen := by simp only [maxLen]; omega
  have hmT : T ≤ maxLen := by simp only [maxLen]; omega
  have rm : (n : Int).tmod 64 = 0 := by rw [Int.tmod_eq_emod_of_nonneg (by omega)]; omega
  have rm2 : (n2 : Int).tmod 64 = 0 := by rw [Int.tmod_eq_emod_of_nonneg (by omega)]; omega
  have c1 := fun W (h : Byt W A n f) => chain_any A n c f H cnt W h hnc hm
  have c2' := fun W (h : Byt W A2 n2 f2) => chain_any A2 n2 c2 f2 (chH H f cnt (n / 64)) (ctK cnt (n / 64)) W h hnc2 hm2
  have c3 := fun A c W (h : Byt W A T F) (h2 : T ≤ c) => chain_any A T c F H cnt W h h2 hmT
  rw [chA_yes H f cnt h1] at c1
  rw [chA_yes _ f2 _ h2] at c2'
  rw [chA_yes H F cnt (by omega : T % 64 = 0)] at c3
  have e1 : T / 64 = n / 64 + n2 / 64 := by omega
  have e2 : chH H F cnt (T / 64) = chH (chH H f cnt (n / 64)) f2 (ctK cnt (n / 64)) (n2 / 64) := by
    have h := chH_second H f f2 (n / 64) cnt (n2 / 64)
    rw [show 64 * (n / 64) = n from by omega, ← hF, ← e1] at h
    exact h
  have e3 : ctK cnt (T / 64) = ctK (ctK cnt (n / 64)) (n2 / 64) := by rw [e1, ctK_add]
  rw [e2, e3] at c3
  have hq : cnt + BitVec.ofNat 64 T = ctK (ctK cnt (n / 64)) (n2 / 64) := by
    rw [← e3, ctK_sum, show 64 * (T / 64) = T from by omega]
  have C1 := Lib.hid c1
  have C2 := Lib.hid c2'
  have C3 := Lib.hid c3
  clear c1 c2' c3 e1 e2 e3 h1 h2
  generalize chH (chH H f cnt (n / 64)) f2 (ctK cnt (n / 64)) (n2 / 64) = Y at *
  generalize ctK (ctK cnt (n / 64)) (n2 / 64) = q2 at *
  generalize chH H f cnt (n / 64) = X1 at *
  generalize ctK cnt (n / 64) = q1 at *
  have n1 := eqW_self 8 Y
  have rT : IntKind.u64.wrap (T : Int) = T := by rw [wrap_u64]; omega
  have hv : Value.int .u64 (T : Int) = U64 (BitVec.ofNat 64 T) := by
    unfold U64
    rw [BitVec.toNat_ofNat]
    congr 1
    omega
  have HB := Lib.hid hb
  have HB2 := Lib.hid hb2
  have HN := Lib.hid (And.intro hn hn2)
  have HA := Lib.hid hA
  have HA2 := Lib.hid hA2
  have HT := Lib.hid hT
  have HF := Lib.hid hF
  clear hb hn hA hnc hb2 hn2 hA2 hnc2 hm hm2 hmT hT hF
  go_enter Try.func13, Try.ntmps13
  go_wp2_with (first
    | (refine own_box 3 (runC H M cnt last node) O rfl rfl rfl rfl ?_; clear O; intro W a3 O; simp only [Act.put, List.setIfInBounds_toArray, List.set_cons_zero, List.set_cons_succ]))
  have Q24 := Lib.hid (show ∀ u : World, Own w u [] ((a3, 48, runC H M cnt last node) :: []) → u.cell? ⟨a3, 24, none⟩ = some (U64 cnt) from fun u h => ((Own.get h 0 rfl).cell 24).trans (runC_r H M cnt last node 0))
  refine wp_held (S := fun u => Own w u [] ((a3, 48, runC H M cnt last node) :: [])) 7 #[false, false, false, false, false, false, false] (by kernel_rfl) rfl rfl ?_
  replace O := O.drew
  refine seg_take (fuel := 3) (L' := #[true, true, true, true, false, false, false]) (by kernel_rfl) (fun _ _ _ _ _ _ h => h) (by first | exact O | exact O.drop_ 1) [0, 1, 2, 3] [_, _, _, _] _ _ rfl (by kernel_rfl) ?_
  simp only [List.getElem_toArray, List.getElem_cons_zero, List.getElem_cons_succ]
  repeat (first
    | (refine take_load_part (part := words 8 H) 20 rfl (by rfl) rfl rfl (fun _ h => Own.get h 0 rfl) Try.underlying33 rfl (by kernel_rfl) ?_ ?_; (exact fun j hj => runC_H H M cnt last node j (by simpa [words_size] using hj)); simp only [Act.put, List.setIfInBounds_toArray, List.set_cons_zero, List.set_cons_succ])
    | (refine take_pure (v := ?_) (by rfl) ?_ ?_; rotate_left; (· (intro w hSw; have q24 := Q24.out _ hSw; clear hSw; go_simp; try with_reducible rfl)); simp only [Act.put, List.setIfInBounds_toArray, List.set_cons_zero, List.set_cons_succ]))
  refine take_done ?_
  refine seg_sole 4 #[true, true, true, true, true, false, false] rfl (by kernel_rfl) ?_
  try simp only [List.getElem_toArray, List.getElem_cons_zero, List.getElem_cons_succ]
  go_wp2_with (refine own_alloc 7 (words 8 fun _ => 0) O rfl rfl rfl (fun _ => by kernel_rfl) ?_; clear O; intro W a7 O; simp only [Act.put, List.setIfInBounds_toArray, List.set_cons_zero, List.set_cons_succ])
  (first | refine back_intro2 (by first | exact O | exact O.drop_ 1) ?_ | refine back_intro (by first | exact O | exact O.drop_ 1) ?_)
  refine seg_sole 5 #[true, true, true, true, true, true, false] rfl (by kernel_rfl) ?_
  try simp only [List.getElem_toArray, List.getElem_cons_zero, List.getElem_cons_succ]
  go_wp2_with (refine own_store_row 0 (.tmp 7) (.tmp 20) O rfl rfl rfl rfl rfl rfl (by kernel_rfl) (by simp only [words_size]) (words_cell _ _) ?_; clear O; intro W O; simp only [List.set_cons_zero] at O)
  (first | refine back_intro2 (by first | exact O | exact O.drop_ 1) ?_ | refine back_intro (by first | exact O | exact O.drop_ 1) ?_)
  refine seg_take (fuel := 0) (L' := #[true, true, true, true, true, true, true]) (by kernel_rfl) (fun _ _ _ _ _ _ h => h) (by first | exact O | exact O.drop_ 1) [6] [_] _ _ rfl (by kernel_rfl) ?_
  simp only [List.getElem_toArray, List.getElem_cons_zero, List.getElem_cons_succ]
  repeat (first
    | (refine take_pure (v := ?_) (by rfl) ?_ ?_; rotate_left; (· (intro w hSw; have q24 := Q24.out _ hSw; clear hSw; go_simp; try with_reducible rfl)); simp only [Act.put, List.setIfInBounds_toArray, List.set_cons_zero, List.set_cons_succ]))
  refine take_done ?_
  refine seg_done (by kernel_rfl) ?_
  go_wp2_with (first
    | (go_at_call 32; refine (alive_any _).mono ?_; rintro e W ⟨rfl, K⟩; replace O := O.keeps K; clear K; have M := Mine.nil w W f)
    | (at_builtin; refine own_append_byt (.slice none 0 0) 0 n c f f A (.tmp 25) (.tmp 26) O M rfl rfl rfl rfl HA.out (by simp) (HB.out.kept O.keep) (by have := HN.out; omega) ?_; clear O M; intro v27 W O M; simp only [Act.put, List.setIfInBounds_toArray, List.set_cons_zero, List.set_cons_succ]; replace M := M.congr (g := f) (fun i _ => by unfold cat; rw [if_neg (by omega), Nat.sub_zero]); rw [Nat.zero_add] at M)
    | (at_builtin; refine own_append_byt v27 n n2 c2 f f2 A2 (.tmp 28) (.tmp 29) O M rfl rfl rfl rfl HA2.out (by simp) (HB2.out.kept O.keep) (by have := HN.out; omega) ?_; clear O M; intro v30 W O M; simp only [Act.put, List.setIfInBounds_toArray, List.set_cons_zero, List.set_cons_succ]; rw [← HT.out, ← HF.out] at M; obtain ⟨A3, c3, X, rfl, hc3, O3, hX⟩ := M.open_ O (by simp); have HX := Lib.hid hX; have HC3 := Lib.hid hc3; clear O M hX hc3; have O := O3; clear O3)
    | (refine own_load 42 0 O rfl rfl rfl rfl rfl Try.underlying33 rfl (by kernel_rfl) ?_; simp only [Act.put, List.setIfInBounds_toArray, List.set_cons_zero, List.set_cons_succ])
    | (go_at_call 45; (with_reducible refine Calls.mono (C1.out _ (HB.out.kept O.keep)) ?_); rintro e W ⟨rfl, K⟩; replace O := O.keeps K; clear K)
    | (refine own_alloc 10 (words 8 fun _ => 0) O rfl rfl rfl (fun _ => by kernel_rfl) ?_; clear O; intro W a10 O; simp only [Act.put, List.setIfInBounds_toArray, List.set_cons_zero, List.set_cons_succ])
    | (refine own_store_row 0 (.tmp 10) (.tmp 46) O rfl rfl rfl rfl rfl rfl (by kernel_rfl) (by simp only [words_size]) (words_cell _ _) ?_; clear O; intro W O; simp only [List.set_cons_zero] at O)
    | (refine own_load 50 0 O rfl rfl rfl rfl rfl Try.underlying33 rfl (by kernel_rfl) ?_; simp only [Act.put, List.setIfInBounds_toArray, List.set_cons_zero, List.set_cons_succ])
    | (go_at_call 45; (with_reducible refine Calls.mono (C2.out _ (HB2.out.kept O.keep)) ?_); rintro e W ⟨rfl, K⟩; replace O := O.keeps K; clear K)
    | (refine own_alloc 13 (words 8 fun _ => 0) O rfl rfl rfl (fun _ => by kernel_rfl) ?_; clear O; intro W a13 O; simp only [Act.put, List.setIfInBounds_toArray, List.set_cons_zero, List.set_cons_succ])
    | (refine own_store_row 0 (.tmp 13) (.tmp 54) O rfl rfl rfl rfl rfl rfl (by kernel_rfl) (by simp only [words_size]) (words_cell _ _) ?_; clear O; intro W O; simp only [List.set_cons_zero] at O)
    | (refine own_load 58 2 O rfl rfl rfl rfl rfl Try.underlying33 rfl (by kernel_rfl) ?_; simp only [Act.put, List.setIfInBounds_toArray, List.set_cons_zero, List.set_cons_succ])
    | (go_at_call 45; (with_reducible refine Calls.mono (C3.out A3 c3 _ (HX.out _ (fun e he => O.blk e (by simp [he]))) HC3.out) ?_); rintro e W ⟨rfl, K⟩; replace O := O.keeps K; clear K)
    | (refine own_alloc 16 (words 8 fun _ => 0) O rfl rfl rfl (fun _ => by kernel_rfl) ?_; clear O; intro W a16 O; simp only [Act.put, List.setIfInBounds_toArray, List.set_cons_zero, List.set_cons_succ])
    | (refine own_store_row 0 (.tmp 16) (.tmp 62) O rfl rfl rfl rfl rfl rfl (by kernel_rfl) (by simp only [words_size]) (words_cell _ _) ?_; clear O; intro W O; simp only [List.set_cons_zero] at O)
    | (refine own_load_w 76 1 O rfl rfl rfl rfl rfl Try.underlying33 rfl (by kernel_rfl) ?_; simp only [Act.put, List.setIfInBounds_toArray, List.set_cons_zero, List.set_cons_succ])
    | (refine own_load_w 77 0 O rfl rfl rfl rfl rfl Try.underlying33 rfl (by kernel_rfl) ?_; simp only [Act.put, List.setIfInBounds_toArray, List.set_cons_zero, List.set_cons_succ]))
  go_ret
  exact ⟨rfl, O.keep⟩

theorem parts_walk (H M : Nat → BitVec 32) (cnt : BitVec 64) (last node : Bool) (A : Option Addr) (n c : Nat) (f : Nat → BitVec 8) (A2 : Option Addr) (n2 c2 : Nat) (f2 : Nat → BitVec 8) (w : World) (hb : Byt w A n f) (hn : n ≤ 1048576) (hA : A = none → n = 0 ∧ c = 0) (hnc : n ≤ c) (hb2 : Byt w A2 n2 f2) (hn2 : n2 ≤ 1048576) (hA2 : A2 = none → n2 = 0 ∧ c2 = 0) (hnc2 : n2 ≤ c2) :
    Calls Try.prog 13 #[.agg (runC H M cnt last node), .slice A n c, .slice A2 n2 c2] w fun e w' => e = .returned (.bool true) ∧ Keeps w w' [] := by
  by_cases h1 : n % 64 = 0
  · by_cases h2 : n2 % 64 = 0
    · exact parts_walk2 H M cnt last node A n c f A2 n2 c2 f2 w hb hn hA hnc hb2 hn2 hA2 hnc2 h1 h2
    · exact parts_walk1 H M cnt last node A n c f A2 n2 c2 f2 w hb hn hA hnc hb2 hn2 hA2 hnc2 h1 h2
  · exact parts_walk0 H M cnt last node A n c f A2 n2 c2 f2 w hb hn hA hnc hb2 hn2 hA2 hnc2 h1

theorem open_short {H : Type} {enc : TypeId × Value → H} {w : World} {base : Nat} {v : Value} {d : DataW H} {p : List MemPlace} (hval : Value.okWide Try.prog w .any base 32 v) (h : DataW.Trod enc Try.prog w 0 (fun _ => true) true 32 v d p) (hlt : ∀ q ∈ p, q.block < w.heap.size)
    (hd : Rows.uptoBulk d ≤ 1048576) :
    ∃ (A : Option Addr) (n c : Nat) (f : Nat → BitVec 8), v = .slice A n c ∧ Byt w A n f ∧ n ≤ 1048576 ∧ (A = none → n = 0 ∧ c = 0) ∧ n ≤ c := by
  obtain ⟨a0, len0, cap0, rfl⟩ := okWide_slice Try.underlying32 hval
  have h' := h
  obtain ⟨fuel, hf⟩ := h'
  have hz : ∀ e s, d = .slice e s → (e.length + s.length) * Try.prog.bytesOf 5 ≤ reachBytes := fun e s he => by
    subst he
    have := bulk_slice e s
    have hr : 1048576 ≤ reachBytes := by decide
    rw [bytes5]
    omega
  obtain ⟨A, n, c, f, e, hb, _, hA, hnc⟩ := open_bytes2 hval h hlt hz
  refine ⟨A, n, c, f, e, hb, ?_, hA, hnc⟩
  rcases open_ints Try.underlying32 Try.underlying5 (by kernel_rfl) hf with ⟨hcs, hx⟩ | ⟨a, len, cap, zs, hcs, _, hle, hmax, hzl, hx, hcell, hwf⟩
  · simp [Value.cells] at hcs
    simp at e
    omega
  · simp [Value.cells] at hcs
    simp at e
    simp only [Prod.mk.injEq] at hx
    obtain ⟨rfl, _⟩ := hx
    have h2 := bulk_slice (lits .u8 (zs.take len) : List (DataW H)) (lits .u8 (zs.drop len))
    have h3 : zs.length = cap := by simpa using hzl
    have h4 : (lits .u8 (zs.take len) : List (DataW H)).length + (lits .u8 (zs.drop len) : List (DataW H)).length = zs.length := by simp [lits]; omega
    omega

theorem contract (H : Type) (enc : TypeId × Value → H) (W : World) (base : Nat) (args : Array Value) (ds gs : List (DataW H)) (before : List MemPlace)
    (hval : ∀ (j : Nat) t v, Try.f13.params[j]? = some t → args[j]? = some v → Value.okWide Try.prog W .any base t v)
    (hW : DataW.Whole enc Try.prog Try.f13.params.toList Rows.mixsPartsSpec.vars false W args.toList ds gs before) (hk : Rows.uptoSmall H (ds ++ gs) = true) :
    Calls Try.prog 13 args W fun e W' => ∃ v, e = .returned v ∧ Rows.mixsPartsSpec.post enc Try.prog Try.f13 false true false false W args v W' := by
  have hlt : ∀ p ∈ before, p.block < W.heap.size := fun p hp => hW.lt p hp
  have hW' := hW
  obtain ⟨p, q, hA0, hV, rfl, hfz, hnd⟩ := hW
  have hA : DataW.TrodAll enc Try.prog W 0 (fun _ => true) true [48, 32, 32] args.toList ds p := hA0
  obtain ⟨rfl, rfl⟩ := trodVars_none hV
  simp only [List.append_nil] at hlt hW' hk
  have hbk : Rows.uptoBulkAll ds ≤ 1048576 := of_decide_eq_true hk
  obtain ⟨v0, v1, v2, d0, d1, d2, p0, p1, p2, hargs, rfl, rfl, h0, h1, h2⟩ := trodAll_three hA
  obtain rfl : args = #[v0, v1, v2] := by cases args; simp_all
  obtain ⟨R, M, cnt, last, node, rfl⟩ := open_run (hval 0 48 v0 rfl rfl)
  obtain ⟨A, n, c, f, rfl, hb, hn, hAn, hnc⟩ := open_short (hval 1 32 v1 rfl rfl) h1 (fun q hq => hlt q (by simp [hq])) (Nat.le_trans (bulk_part (by simp)) hbk)
  obtain ⟨A2, n2, c2, f2, rfl, hb2, hn2, hA2, hnc2⟩ := open_short (hval 2 32 v2 rfl rfl) h2 (fun q hq => hlt q (by simp [hq])) (Nat.le_trans (bulk_part (by simp)) hbk)
  refine (parts_walk R M cnt last node A n c f A2 n2 c2 f2 W hb hn hAn hnc hb2 hn2 hA2 hnc2).mono fun e W' ⟨he, hk'⟩ => ?_
  subst he
  have hbl := hk'.below
  refine ⟨_, rfl, _, [], _, [], p0 ++ p1 ++ p2, [], hW', ?_, ?_, ?_, ?_, fun h => by cases h⟩
  · rw [List.append_nil]
    exact trodAll_mk1 (shut_bool Try.underlying4 true)
  · rw [List.append_nil]
    refine trodAll_stays laid _ _ _ _ (fun t ht => ?_) hA (fun x hx => hbl.same (hlt x hx)) (fun x hx => by simpa using hlt x hx)
    have ht' : t ∈ ([48, 32, 32] : List TypeId) := ht
    simp only [List.mem_cons, List.not_mem_nil, or_false] at ht'
    rcases ht' with rfl | rfl | rfl
    all_goals exact ⟨by kernel_rfl, of_decide_eq_true (by kernel_rfl)⟩
  · trivial
  · exact World.keptBut_mono (fun x hx => ⟨hx, by simpa using hx⟩) (hbl.frame (· ∈ p0 ++ p1 ++ p2))

set_option maxRecDepth 100000 in
theorem parts_lifted (os : Os) (started : os.Started) (H : Type) (enc : TypeId × Value → H) (F : Stop.Interp) :
    ReturnsInHanded {} Try.checked os 13 .any ((Rows.OpenSpec.upto Rows.mixsPartsSpec).pre6 enc Try.prog Try.f13 Rows.mixsPartsUptoRow.domain false) (((Rows.OpenSpec.upto Rows.mixsPartsSpec).at F).post enc Try.prog Try.f13 false true false false) := by
  refine returnsInHanded_of_cond (C := Try.checked) (s := Rows.OpenSpec.upto Rows.mixsPartsSpec) (k := Rows.uptoSmall) rfl own started (by kernel_rfl) Try.func13
    (OpenSpec.witness (enc := enc) (C := Try.checked) (s := Rows.OpenSpec.upto Rows.mixsPartsSpec) (k := Rows.uptoSmall) rfl false ⟨#[], #[.agg #[.int .u32 0, .int .u32 0, .int .u32 0, .int .u32 0, .int .u32 0, .int .u32 0, .int .u32 0, .int .u32 0, .int .u32 0, .int .u32 0, .int .u32 0, .int .u32 0, .int .u32 0, .int .u32 0, .int .u32 0, .int .u32 0, .int .u32 0, .int .u32 0, .int .u32 0, .int .u32 0, .int .u32 0, .int .u32 0, .int .u32 0, .int .u32 0, .int .u64 0, .bool false, .bool false], .slice none 0 0, .slice none 0 0], []⟩ 8 (by kernel_rfl) (by kernel_rfl) (by kernel_rfl)
      (x := ([.agg [.agg [.lit (.int .u32 0), .lit (.int .u32 0), .lit (.int .u32 0), .lit (.int .u32 0), .lit (.int .u32 0), .lit (.int .u32 0), .lit (.int .u32 0), .lit (.int .u32 0)], .agg [.lit (.int .u32 0), .lit (.int .u32 0), .lit (.int .u32 0), .lit (.int .u32 0), .lit (.int .u32 0), .lit (.int .u32 0), .lit (.int .u32 0), .lit (.int .u32 0), .lit (.int .u32 0), .lit (.int .u32 0), .lit (.int .u32 0), .lit (.int .u32 0), .lit (.int .u32 0), .lit (.int .u32 0), .lit (.int .u32 0), .lit (.int .u32 0)], .lit (.int .u64 0), .lit (.bool false), .lit (.bool false)], .nil, .nil], [], [])) (by kernel_rfl) rfl (by kernel_rfl)) ?_
  intro W base args ds gs before hval hW _ hk _
  exact contract H enc W base args ds gs before hval hW hk

theorem parts_holds : Rows.MixsPartsUptoSaid :=
  OpenClaim.holds_of_cond 13 Try.f13 rfl rfl rfl rfl rfl rfl rfl ⟨rfl, rfl, rfl, rfl, rfl⟩ rfl rfl rfl rfl rfl (by kernel_rfl) Try.func13 (by kernel_rfl)
    (of_decide_eq_true (by kernel_rfl)) (by unfold Func.isWrapper; rw [if_neg (of_decide_eq_false (by kernel_rfl))]; exact ⟨rfl, rfl⟩)
    (fun os started H enc _ F => parts_lifted os started H enc F)
end Go.Proofs.Ytanibkocihjgjaa

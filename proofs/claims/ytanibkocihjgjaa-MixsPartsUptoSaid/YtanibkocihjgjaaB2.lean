/-
  Words and Start of mixs and of the reference: bytes to words.
-/
import Derived.Test.YtanibkocihjgjaaB1
namespace Go.Proofs.Ytanibkocihjgjaa
open Go.RowKit

def wEr (n m : Nat) : Int := if n < m then 3 else if m < n then 2 else 0
theorem wEr_lt {n m : Nat} (h : n < m) : wEr n m = 3 := by unfold wEr; rw [if_pos h]
theorem wEr_gt {n m : Nat} (h : m < n) : wEr n m = 2 := by unfold wEr; rw [if_neg (by omega), if_pos h]
theorem wEr_eq (m : Nat) : wEr m m = 0 := by unfold wEr; rw [if_neg (by omega), if_neg (by omega)]
theorem right_any (A : Option Addr) (n c m : Nat) (w : World) : Calls Try.prog 52 #[.slice A n c, .int .i64 (m : Int)] w fun e w' => e = .returned (.int .i64 (wEr n m)) ∧ w = w' := by
  rcases Nat.lt_trichotomy n m with h | rfl | h
  · have H := Lib.hid (wEr_lt h)
    have h1 : (n : Int) < m := by omega
    go_enter Try.func52, Try.ntmps52
    go_wp2
    go_ret
    exact ⟨by rw [H.out]; rfl, rfl⟩
  · have H := Lib.hid (wEr_eq n)
    go_enter Try.func52, Try.ntmps52
    go_wp2
    go_ret
    exact ⟨by rw [H.out]; rfl, rfl⟩
  · have H := Lib.hid (wEr_gt h)
    have h1 : ¬ (n : Int) < m := by omega
    have h2 : (m : Int) < n := by omega
    go_enter Try.func52, Try.ntmps52
    go_wp2
    go_ret
    exact ⟨by rw [H.out]; rfl, rfl⟩

theorem Later.prop_ {w : World} (p : Later w) : Keeps w p.1 [] := p.2
set_option maxHeartbeats 1000000 in
theorem words_in {t : TypeId} (g m : Nat) (hm : m ≤ 16) (ad : Addr) (n c : Nat) (G : Nat → BitVec 32) (w : World) (hB : Blk w g t (words m fun _ => 0))
    (ld : ∀ k : Nat, k < m → ∀ W : World, Keeps w W [g] → Calls Try.prog 60 #[.slice (some ad) n c, .int .i64 (4 * (k : Int))] W fun e w' => e = .returned (.tuple #[U32 (G k), .int .i64 0]) ∧ W = w') :
    Calls Try.prog 53 #[.slice (some ⟨g, 0, none⟩) m m, .slice (some ad) n c] w fun e w' => e = .returned (.tuple #[]) ∧ Keeps w w' [g] ∧ Blk w' g t (words m G) := by
  have O := (Own.start w [g]).have_ hB (by simp) (by simp)
  have CL := Lib.hid ld
  clear ld hB
  go_enter Try.func53, Try.ntmps53
  go_wp2
  go_loopw [7] (fun i wr => ∃ k : Nat, k ≤ m ∧ i = .int .i64 k ∧ Own w wr [g] [(g, t, words m (pK G k))]) (fun i _ => m - (intOf i).toNat)
  case atStart => exact ⟨0, by omega, rfl, O.put 0 rfl (words_congr fun i _ => pK_zero G i)⟩
  case round =>
    obtain ⟨k, hk, rfl, O⟩ := hrel
    by_cases hlt : k < m
    · have g1 : ((k : Int)) < m := by omega
      have g0 : (0 : Int) ≤ k := by omega
      have ak := add_zero_ g k
      have m3 : IntKind.i64.wrap (4 * (k : Int)) = 4 * k := IntWalk.i64_in _ (by omega)
      go_wp2_with (first
        | (go_at_call 60; refine (CL.out k hlt _ O.keep).mono ?_; rintro e W ⟨rfl, rfl⟩)
        | (refine own_store 0 k (U32 (G k)) (.tmp 19) (.tmp 17) O rfl rfl rfl rfl rfl rfl (by simp only [words_size]; omega) rfl rfl (by kernel_rfl) (words_set m _ k _) ?_; clear O; intro W O; simp only [List.set_cons_zero] at O))
      clear m3 ak
      go_roundw
      case rel => exact ⟨k + 1, by omega, by go_num, O.put 0 rfl (words_congr fun i _ => pK_step G k i)⟩
      case measure => (simp [intOf] <;> omega)
    · obtain rfl : k = m := by omega
      go_wp2
      go_end0
      refine ⟨rfl, O.keep, ?_⟩
      have b := O.get 0 rfl
      rw [words_congr (fun i hi => pK_all G k i hi)] at b
      exact b
def wSt (n : Nat) (f : Nat → BitVec 8) : Nat → BitVec 32 := if n = 64 then wV f else fun _ => 0
theorem wSt_yes (f : Nat → BitVec 8) : wSt 64 f = wV f := by unfold wSt; rw [if_pos rfl]
theorem wSt_no (n : Nat) (f : Nat → BitVec 8) (h : n ≠ 64) : wSt n f = fun _ => 0 := by unfold wSt; rw [if_neg h]
def sSt (n : Nat) (f : Nat → BitVec 8) : Nat → BitVec 32 := if n = 32 then fun i => ivV i ^^^ wV f i else fun _ => 0
theorem sSt_yes (f : Nat → BitVec 8) : sSt 32 f = fun i => ivV i ^^^ wV f i := by unfold sSt; rw [if_pos rfl]
theorem sSt_no (n : Nat) (f : Nat → BitVec 8) (h : n ≠ 32) : sSt n f = fun _ => 0 := by unfold sSt; rw [if_neg h]

set_option maxHeartbeats 1000000 in
theorem words_good (G : Nat → BitVec 32) (n c : Nat) (ad : Addr) (w : World) (hz1 : (n : Int) = 64) (ld : ∀ k : Nat, k < 16 → ∀ W : World, (∀ b, b < w.heap.size → W.heap[b]? = w.heap[b]?) → w.heap.size ≤ W.heap.size → Calls Try.prog 60 #[.slice (some ad) n c, .int .i64 (4 * (k : Int))] W fun e w' => e = .returned (.tuple #[U32 (G k), .int .i64 0]) ∧ W = w') :
    Calls Try.prog 19 #[.slice (some ad) n c] w fun e w' => e = .returned (.tuple #[.agg (words 16 G), .int .i64 0]) ∧ Keeps w w' [] := by
  have O := Own.start w []
  have CL := Lib.hid ld
  have CR := Lib.hid fun w => (by have h := right_any (some ad) n c 64 w; rw [show n = 64 by omega, wEr_eq] at h; rw [show n = 64 by omega]; exact h : Calls Try.prog 52 #[.slice (some ad) n c, .int .i64 64] w fun e w' => e = .returned (.int .i64 0) ∧ w = w')
  clear ld hz1
  go_enter Try.func19, Try.ntmps19
  go_wp2_with (first
    | (refine own_alloc 2 (words 16 fun _ => 0) O rfl rfl rfl (fun _ => by kernel_rfl) ?_; clear O; intro W a2 O; simp only [Act.put, List.setIfInBounds_toArray, List.set_cons_zero, List.set_cons_succ])
    | (refine own_alloc 4 (words 16 fun _ => 0) O rfl rfl rfl (fun _ => by kernel_rfl) ?_; clear O; intro W a4 O; simp only [Act.put, List.setIfInBounds_toArray, List.set_cons_zero, List.set_cons_succ])
    | (go_at_call 52; refine (CR.out _).mono ?_; rintro e W ⟨rfl, rfl⟩)
    | (go_at_call 53; refine (words_in a4 16 (by omega) ad n c G W (O.get 0 rfl) (fun k hk W' K => CL.out k hk W' (fun b hb => (K.block b (Nat.lt_of_lt_of_le hb O.keep.size) (by intro hm; have e := List.mem_singleton.1 hm; subst e; exact absurd (O.new _ (List.mem_of_getElem? (i := 0) rfl) hb) (by simp))).trans (O.keep.block b hb (by simp))) (Nat.le_trans O.keep.size K.size))).mono ?_; rintro e W ⟨rfl, K, B⟩; replace O := O.set 0 rfl K B; clear K B; simp only [List.set_cons_zero] at O)
    | (refine own_load 15 0 O rfl rfl rfl rfl rfl Try.underlying23 rfl (by kernel_rfl) ?_; simp only [Act.put, List.setIfInBounds_toArray, List.set_cons_zero, List.set_cons_succ])
    | (refine own_store_row 1 (.tmp 2) (.tmp 15) O rfl rfl rfl rfl rfl rfl (by kernel_rfl) (by simp only [words_size]) (words_cell _ _) ?_; clear O; intro W O; simp only [List.set_cons_zero, List.set_cons_succ] at O))
  refine bodyPost_ret (v := .tuple #[.agg (words 16 G), .int .i64 0]) (results_cell_tmp rfl _ _ a2 23 _ _ rfl (O.get 1 rfl) Try.underlying23 rfl (by kernel_rfl) _ rfl) rfl ⟨?_, O.keep⟩
  rfl

set_option maxHeartbeats 1000000 in
theorem words_short (A : Option Addr) (n c : Nat) (w : World) (hz1 : (n : Int) < 64) :
    Calls Try.prog 19 #[.slice A n c] w fun e w' => e = .returned (.tuple #[.agg (words 16 fun _ => 0), .int .i64 3]) ∧ Keeps w w' [] := by
  have O := Own.start w []
  have CR := Lib.hid fun w => (by have h := right_any A n c 64 w; rw [wEr_lt (by omega)] at h; exact h : Calls Try.prog 52 #[.slice A n c, .int .i64 64] w fun e w' => e = .returned (.int .i64 3) ∧ w = w')
  go_enter Try.func19, Try.ntmps19
  go_wp2_with (first
    | (refine own_alloc 2 (words 16 fun _ => 0) O rfl rfl rfl (fun _ => by kernel_rfl) ?_; clear O; intro W a2 O; simp only [Act.put, List.setIfInBounds_toArray, List.set_cons_zero, List.set_cons_succ])
    | (refine own_alloc 4 (words 16 fun _ => 0) O rfl rfl rfl (fun _ => by kernel_rfl) ?_; clear O; intro W a4 O; simp only [Act.put, List.setIfInBounds_toArray, List.set_cons_zero, List.set_cons_succ])
    | (go_at_call 52; refine (CR.out _).mono ?_; rintro e W ⟨rfl, rfl⟩)
    | (refine own_load 10 0 O rfl rfl rfl rfl rfl Try.underlying23 rfl (by kernel_rfl) ?_; simp only [Act.put, List.setIfInBounds_toArray, List.set_cons_zero, List.set_cons_succ])
    | (refine own_store_row 1 (.tmp 2) (.tmp 10) O rfl rfl rfl rfl rfl rfl (by kernel_rfl) (by simp only [words_size]) (words_cell _ _) ?_; clear O; intro W O; simp only [List.set_cons_zero, List.set_cons_succ] at O))
  refine bodyPost_ret (v := .tuple #[.agg (words 16 fun _ => 0), .int .i64 3]) (results_cell_tmp rfl _ _ a2 23 _ _ rfl (O.get 1 rfl) Try.underlying23 rfl (by kernel_rfl) _ rfl) rfl ⟨?_, O.keep⟩
  rfl

set_option maxHeartbeats 1000000 in
theorem words_long (A : Option Addr) (n c : Nat) (w : World) (hz1 : 64 < (n : Int)) :
    Calls Try.prog 19 #[.slice A n c] w fun e w' => e = .returned (.tuple #[.agg (words 16 fun _ => 0), .int .i64 2]) ∧ Keeps w w' [] := by
  have O := Own.start w []
  have CR := Lib.hid fun w => (by have h := right_any A n c 64 w; rw [wEr_gt (by omega)] at h; exact h : Calls Try.prog 52 #[.slice A n c, .int .i64 64] w fun e w' => e = .returned (.int .i64 2) ∧ w = w')
  go_enter Try.func19, Try.ntmps19
  go_wp2_with (first
    | (refine own_alloc 2 (words 16 fun _ => 0) O rfl rfl rfl (fun _ => by kernel_rfl) ?_; clear O; intro W a2 O; simp only [Act.put, List.setIfInBounds_toArray, List.set_cons_zero, List.set_cons_succ])
    | (refine own_alloc 4 (words 16 fun _ => 0) O rfl rfl rfl (fun _ => by kernel_rfl) ?_; clear O; intro W a4 O; simp only [Act.put, List.setIfInBounds_toArray, List.set_cons_zero, List.set_cons_succ])
    | (go_at_call 52; refine (CR.out _).mono ?_; rintro e W ⟨rfl, rfl⟩)
    | (refine own_load 10 0 O rfl rfl rfl rfl rfl Try.underlying23 rfl (by kernel_rfl) ?_; simp only [Act.put, List.setIfInBounds_toArray, List.set_cons_zero, List.set_cons_succ])
    | (refine own_store_row 1 (.tmp 2) (.tmp 10) O rfl rfl rfl rfl rfl rfl (by kernel_rfl) (by simp only [words_size]) (words_cell _ _) ?_; clear O; intro W O; simp only [List.set_cons_zero, List.set_cons_succ] at O))
  refine bodyPost_ret (v := .tuple #[.agg (words 16 fun _ => 0), .int .i64 2]) (results_cell_tmp rfl _ _ a2 23 _ _ rfl (O.get 1 rfl) Try.underlying23 rfl (by kernel_rfl) _ rfl) rfl ⟨?_, O.keep⟩
  rfl

theorem words_any (A : Option Addr) (n c : Nat) (f : Nat → BitVec 8) (w : World) (hb : Byt w A n f) (hn : n ≤ maxLen) :
    Calls Try.prog 19 #[.slice A n c] w fun e w' => e = .returned (.tuple #[.agg (words 16 (wSt n f)), .int .i64 (wEr n 64)]) ∧ Keeps w w' [] := by
  by_cases hz : n = 64
  · obtain ⟨ad, rfl, hB, hc⟩ := hb (by omega)
    subst hz
    rw [wSt_yes, wEr_eq]
    refine words_good (wV f) 64 c ad w rfl fun k hk W K KS => ?_
    have h := load32_any ad 64 c (4 * k) f W (by omega) (fun j hj => (World.cell?_of_block (by rw [add_block]; exact K _ hB)).trans (hc j hj)) (by omega) hn
    rw [show ((4 * k : Nat) : Int) = 4 * (k : Int) from by omega] at h
    exact h
  · rw [wSt_no n f hz]
    rcases Nat.lt_or_ge n 64 with h | h
    · rw [wEr_lt h]
      exact words_short A n c w (by omega)
    · have h' : 64 < n := by omega
      rw [wEr_gt h']
      exact words_long A n c w (by omega)

set_option maxHeartbeats 1000000 in
theorem refwords_good (G : Nat → BitVec 32) (n c : Nat) (ad : Addr) (w : World) (hz1 : (n : Int) = 64) (ld : ∀ k : Nat, k < 16 → ∀ W : World, (∀ b, b < w.heap.size → W.heap[b]? = w.heap[b]?) → w.heap.size ≤ W.heap.size → Calls Try.prog 54 #[.slice (some ad) n c, .int .i64 (4 * (k : Int))] W fun e w' => e = .returned (U32 (G k)) ∧ Keeps W w' []) :
    Calls Try.prog 20 #[.slice (some ad) n c] w fun e w' => e = .returned (.tuple #[.agg (words 16 G), .int .i64 0]) ∧ Keeps w w' [] := by
  have O := Own.start w []
  have CL := Lib.hid ld
  clear ld
  go_enter Try.func20, Try.ntmps20
  go_wp2_with (first
    | (refine own_alloc 2 (words 16 fun _ => 0) O rfl rfl rfl (fun _ => by kernel_rfl) ?_; clear O; intro W a2 O; simp only [Act.put, List.setIfInBounds_toArray, List.set_cons_zero, List.set_cons_succ])
    | (refine own_alloc 4 (words 16 fun _ => 0) O rfl rfl rfl (fun _ => by kernel_rfl) ?_; clear O; intro W a4 O; simp only [Act.put, List.setIfInBounds_toArray, List.set_cons_zero, List.set_cons_succ]))
  clear hz1
  go_loopw [5] (fun i wr => ∃ k : Nat, k ≤ 16 ∧ i = .int .i64 k ∧ Own w wr [] [(a4, 23, words 16 (pK G k)), (a2, 23, words 16 fun _ => 0)]) (fun i _ => 16 - (intOf i).toNat)
  case atStart => exact ⟨0, by omega, rfl, O.put 0 rfl (words_congr fun i _ => pK_zero G i)⟩
  case round =>
   obtain ⟨k, hk, rfl, O⟩ := hrel
   by_cases hlt : k < 16
   · have g1 : ((k : Int)) < 16 := by omega
     have m3 : IntKind.i64.wrap (4 * (k : Int)) = 4 * k := IntWalk.i64_in _ (by omega)
     go_wp2_with (first
       | (go_at_call 54; refine (CL.out k hlt _ (fun b hb => O.keep.block b hb (by simp)) O.keep.size).mono ?_; rintro e W ⟨rfl, K⟩; replace O := O.keeps K; clear K)
       | (refine own_store 0 k (U32 (G k)) (.tmp 25) (.tmp 24) O rfl rfl rfl rfl rfl rfl (by simp only [words_size]; omega) rfl rfl (by kernel_rfl) (words_set 16 _ k _) ?_; clear O; intro W O; simp only [List.set_cons_zero] at O))
     clear m3
     go_roundw
     case rel => exact ⟨k + 1, by omega, by go_num, O.put 0 rfl (words_congr fun i _ => pK_step G k i)⟩
     case measure => (simp [intOf] <;> omega)
   · obtain rfl : k = 16 := by omega
     go_wp2_with (first
       | (refine own_load 26 0 O rfl rfl rfl rfl rfl Try.underlying23 rfl (by kernel_rfl) ?_; simp only [Act.put, List.setIfInBounds_toArray, List.set_cons_zero, List.set_cons_succ])
       | (refine own_store_row 1 (.tmp 2) (.tmp 26) O rfl rfl rfl rfl rfl rfl (by kernel_rfl) (by simp only [words_size]) (words_cell _ _) ?_; clear O; intro W O; simp only [List.set_cons_zero, List.set_cons_succ] at O))
     refine bodyPost_ret (v := .tuple #[.agg (words 16 (pK G 16)), .int .i64 0]) (results_cell_tmp rfl _ _ a2 23 _ _ rfl (O.get 1 rfl) Try.underlying23 rfl (by kernel_rfl) _ rfl) rfl ⟨?_, O.keep⟩
     rw [words_congr (fun i hi => pK_all G 16 i hi)]

set_option maxHeartbeats 1000000 in
theorem refwords_short (A : Option Addr) (n c : Nat) (w : World) (hz1 : (n : Int) < 64) :
    Calls Try.prog 20 #[.slice A n c] w fun e w' => e = .returned (.tuple #[.agg (words 16 fun _ => 0), .int .i64 3]) ∧ Keeps w w' [] := by
  have O := Own.start w []
  go_enter Try.func20, Try.ntmps20
  go_wp2_with (first
    | (refine own_alloc 2 (words 16 fun _ => 0) O rfl rfl rfl (fun _ => by kernel_rfl) ?_; clear O; intro W a2 O; simp only [Act.put, List.setIfInBounds_toArray, List.set_cons_zero, List.set_cons_succ])
    | (refine own_alloc 4 (words 16 fun _ => 0) O rfl rfl rfl (fun _ => by kernel_rfl) ?_; clear O; intro W a4 O; simp only [Act.put, List.setIfInBounds_toArray, List.set_cons_zero, List.set_cons_succ])
    | (refine own_load 10 0 O rfl rfl rfl rfl rfl Try.underlying23 rfl (by kernel_rfl) ?_; simp only [Act.put, List.setIfInBounds_toArray, List.set_cons_zero, List.set_cons_succ])
    | (refine own_store_row 1 (.tmp 2) (.tmp 10) O rfl rfl rfl rfl rfl rfl (by kernel_rfl) (by simp only [words_size]) (words_cell _ _) ?_; clear O; intro W O; simp only [List.set_cons_zero, List.set_cons_succ] at O))
  refine bodyPost_ret (v := .tuple #[.agg (words 16 fun _ => 0), .int .i64 3]) (results_cell_tmp rfl _ _ a2 23 _ _ rfl (O.get 1 rfl) Try.underlying23 rfl (by kernel_rfl) _ rfl) rfl ⟨?_, O.keep⟩
  rfl

set_option maxHeartbeats 1000000 in
theorem refwords_long (A : Option Addr) (n c : Nat) (w : World) (hz1 : 64 < (n : Int)) :
    Calls Try.prog 20 #[.slice A n c] w fun e w' => e = .returned (.tuple #[.agg (words 16 fun _ => 0), .int .i64 2]) ∧ Keeps w w' [] := by
  have O := Own.start w []
  have hz2 : ¬ (n : Int) < 64 := by omega
  go_enter Try.func20, Try.ntmps20
  go_wp2_with (first
    | (refine own_alloc 2 (words 16 fun _ => 0) O rfl rfl rfl (fun _ => by kernel_rfl) ?_; clear O; intro W a2 O; simp only [Act.put, List.setIfInBounds_toArray, List.set_cons_zero, List.set_cons_succ])
    | (refine own_alloc 4 (words 16 fun _ => 0) O rfl rfl rfl (fun _ => by kernel_rfl) ?_; clear O; intro W a4 O; simp only [Act.put, List.setIfInBounds_toArray, List.set_cons_zero, List.set_cons_succ])
    | (refine own_load 15 0 O rfl rfl rfl rfl rfl Try.underlying23 rfl (by kernel_rfl) ?_; simp only [Act.put, List.setIfInBounds_toArray, List.set_cons_zero, List.set_cons_succ])
    | (refine own_store_row 1 (.tmp 2) (.tmp 15) O rfl rfl rfl rfl rfl rfl (by kernel_rfl) (by simp only [words_size]) (words_cell _ _) ?_; clear O; intro W O; simp only [List.set_cons_zero, List.set_cons_succ] at O))
  refine bodyPost_ret (v := .tuple #[.agg (words 16 fun _ => 0), .int .i64 2]) (results_cell_tmp rfl _ _ a2 23 _ _ rfl (O.get 1 rfl) Try.underlying23 rfl (by kernel_rfl) _ rfl) rfl ⟨?_, O.keep⟩
  rfl

theorem refwords_any (A : Option Addr) (n c : Nat) (f : Nat → BitVec 8) (w : World) (hb : Byt w A n f) (hn : n ≤ maxLen) :
    Calls Try.prog 20 #[.slice A n c] w fun e w' => e = .returned (.tuple #[.agg (words 16 (wSt n f)), .int .i64 (wEr n 64)]) ∧ Keeps w w' [] := by
  by_cases hz : n = 64
  · obtain ⟨ad, rfl, hB, hc⟩ := hb (by omega)
    subst hz
    rw [wSt_yes, wEr_eq]
    refine refwords_good (wV f) 64 c ad w rfl fun k hk W K KS => ?_
    have h := refload_any ad 64 c (4 * k) f W (by omega) (fun j hj => (World.cell?_of_block (by rw [add_block]; exact K _ hB)).trans (hc j hj)) (by omega) hn
    rw [show ((4 * k : Nat) : Int) = 4 * (k : Int) from by omega] at h
    exact h
  · rw [wSt_no n f hz]
    rcases Nat.lt_or_ge n 64 with h | h
    · rw [wEr_lt h]
      exact refwords_short A n c w (by omega)
    · have h' : 64 < n := by omega
      rw [wEr_gt h']
      exact refwords_long A n c w (by omega)

def sK (G : Nat → BitVec 32) (k : Nat) : Nat → BitVec 32 := fun i => if i < k then ivV i ^^^ G i else ivV i
theorem sK_zero (f : Nat → BitVec 32) (i : Nat) : ivV i = sK f 0 i := by unfold sK; rw [if_neg (by omega)]
theorem sK_at (f : Nat → BitVec 32) (k : Nat) : sK f k k = ivV k := by unfold sK; rw [if_neg (by omega)]
theorem sK_all (G : Nat → BitVec 32) (n i : Nat) (h : i < n) : sK G n i = ivV i ^^^ G i := by unfold sK; rw [if_pos h]
theorem sK_step (f : Nat → BitVec 32) (k i : Nat) : upd (sK f k) k (sK f k k ^^^ f k) i = sK f (k + 1) i := by
  rw [sK_at]
  unfold upd sK
  by_cases h1 : i = k
  · rw [if_pos h1, if_pos (by omega), h1]
  · rw [if_neg h1]
    by_cases h2 : i < k
    · rw [if_pos h2, if_pos (by omega)]
    · rw [if_neg h2, if_neg (by omega)]

set_option maxHeartbeats 1000000 in
theorem start_good (G : Nat → BitVec 32) (n c : Nat) (ad : Addr) (w : World) (hz1 : (n : Int) = 32) (ld : ∀ k : Nat, k < 8 → ∀ W : World, (∀ b, b < w.heap.size → W.heap[b]? = w.heap[b]?) → w.heap.size ≤ W.heap.size → Calls Try.prog 60 #[.slice (some ad) n c, .int .i64 (4 * (k : Int))] W fun e w' => e = .returned (.tuple #[U32 (G k), .int .i64 0]) ∧ W = w') :
    Calls Try.prog 21 #[.slice (some ad) n c] w fun e w' => e = .returned (.tuple #[.agg (words 8 fun i => ivV i ^^^ G i), .int .i64 0]) ∧ Keeps w w' [] := by
  have O := Own.start w []
  have CL := Lib.hid ld
  clear ld
  have HR := Lib.hid (show words 8 (sK G 8) = words 8 (fun i => ivV i ^^^ G i) from words_congr fun i hi => sK_all G 8 i hi)
  generalize (words 8 fun i => ivV i ^^^ G i) = R at *
  have HS := Lib.hid (sK_step G)
  have HZ := Lib.hid (sK_zero G)
  generalize sK G = S at *
  have CR := Lib.hid fun w => (by have h := right_any (some ad) n c 32 w; rw [show n = 32 by omega, wEr_eq] at h; rw [show n = 32 by omega]; exact h : Calls Try.prog 52 #[.slice (some ad) n c, .int .i64 32] w fun e w' => e = .returned (.int .i64 0) ∧ w = w')
  go_enter Try.func21, Try.ntmps21
  go_wp2_with (first
    | (refine own_alloc 2 (words 8 fun _ => 0) O rfl rfl rfl (fun _ => by kernel_rfl) ?_; clear O; intro W a2 O; simp only [Act.put, List.setIfInBounds_toArray, List.set_cons_zero, List.set_cons_succ])
    | (go_at_call 52; refine (CR.out _).mono ?_; rintro e W ⟨rfl, rfl⟩)
    | (refine own_alloc 5 (words 8 fun _ => 0) O rfl rfl rfl (fun _ => by kernel_rfl) ?_; clear O; intro W a5 O; simp only [Act.put, List.setIfInBounds_toArray, List.set_cons_zero, List.set_cons_succ])
    | (go_at_call 53; refine (words_in a5 8 (by omega) ad n c G W (O.get 0 rfl) (fun k hk W' K => CL.out k hk W' (fun b hb => (K.block b (Nat.lt_of_lt_of_le hb O.keep.size) (by intro hm; have e := List.mem_singleton.1 hm; subst e; exact absurd (O.new _ (List.mem_of_getElem? (i := 0) rfl) hb) (by simp))).trans (O.keep.block b hb (by simp))) (Nat.le_trans O.keep.size K.size))).mono ?_; rintro e W ⟨rfl, K, B⟩; replace O := O.set 0 rfl K B; clear K B; simp only [List.set_cons_zero] at O)
    | (go_at_call 23; refine (iv_any _).mono ?_; rintro e W ⟨rfl, K⟩; replace O := O.keeps K; clear K)
    | (refine own_alloc 6 (words 8 fun _ => 0) O rfl rfl rfl (fun _ => by kernel_rfl) ?_; clear O; intro W a6 O; simp only [Act.put, List.setIfInBounds_toArray, List.set_cons_zero, List.set_cons_succ])
    | (refine own_store_row 0 (.tmp 6) (.tmp 17) O rfl rfl rfl rfl rfl rfl (by kernel_rfl) (by simp only [words_size]) (words_cell _ _) ?_; clear O; intro W O; simp only [List.set_cons_zero] at O))
  clear hz1
  go_loopw [18] (fun i wr => ∃ k : Nat, k ≤ 8 ∧ i = .int .i64 k ∧ Own w wr [] [(a6, 33, words 8 (S k)), (a5, 33, words 8 G), (a2, 33, words 8 fun _ => 0)]) (fun i _ => 8 - (intOf i).toNat)
  case atStart => exact ⟨0, by omega, rfl, O.put 0 rfl (words_congr fun i _ => HZ.out i)⟩
  case round =>
   obtain ⟨k, hk, rfl, O⟩ := hrel
   by_cases hlt : k < 8
   · have g1 : ((k : Int)) < 8 := by omega
     have m3 : IntKind.i64.wrap (4 * (k : Int)) = 4 * k := IntWalk.i64_in _ (by omega)
     go_wp2
     have c6 := (O.get 0 rfl).cell
     have c5 := (O.get 1 rfl).cell
     refine wp_quiet_tail_drawn 8 (by kernel_rfl) (by kernel_rfl) ?_
     simp only [List.take, List.drop]
     repeat (go_big_quiet_step (fail))
     refine wpQuiet_nil ?_
     intro _ hw
     obtain ⟨n0, rfl⟩ := hw
     replace O := O.drewN n0
     clear c6 c5 m3
     generalize World.drewN _ n0 = W at O ⊢
     go_wp2_with (refine own_store 0 k (U32 (S k k ^^^ G k)) (.tmp 28) (.tmp 27) O rfl rfl rfl rfl rfl rfl (by simp only [words_size]; omega) rfl rfl (by kernel_rfl) (words_set 8 _ k _) ?_; clear O; intro W O; simp only [List.set_cons_zero] at O)
     go_roundw
     case rel => exact ⟨k + 1, by omega, by go_num, O.put 0 rfl (words_congr fun i _ => HS.out k i)⟩
     case measure => (simp [intOf] <;> omega)
   · obtain rfl : k = 8 := by omega
     go_wp2_with (first
       | (refine own_load 30 0 O rfl rfl rfl rfl rfl Try.underlying33 rfl (by kernel_rfl) ?_; simp only [Act.put, List.setIfInBounds_toArray, List.set_cons_zero, List.set_cons_succ])
       | (refine own_store_row 2 (.tmp 2) (.tmp 30) O rfl rfl rfl rfl rfl rfl (by kernel_rfl) (by simp only [words_size]) (words_cell _ _) ?_; clear O; intro W O; simp only [List.set_cons_zero, List.set_cons_succ] at O))
     refine bodyPost_ret (v := .tuple #[.agg (words 8 (S 8)), .int .i64 0]) (results_cell_tmp rfl _ _ a2 33 _ _ rfl (O.get 2 rfl) Try.underlying33 rfl (by kernel_rfl) _ rfl) rfl ⟨?_, O.keep⟩
     rw [HR.out]

set_option maxHeartbeats 1000000 in
theorem start_short (A : Option Addr) (n c : Nat) (w : World) (hz1 : (n : Int) < 32) :
    Calls Try.prog 21 #[.slice A n c] w fun e w' => e = .returned (.tuple #[.agg (words 8 fun _ => 0), .int .i64 3]) ∧ Keeps w w' [] := by
  have O := Own.start w []
  have CR := Lib.hid fun w => (by have h := right_any A n c 32 w; rw [wEr_lt (by omega)] at h; exact h : Calls Try.prog 52 #[.slice A n c, .int .i64 32] w fun e w' => e = .returned (.int .i64 3) ∧ w = w')
  go_enter Try.func21, Try.ntmps21
  go_wp2_with (first
    | (refine own_alloc 2 (words 8 fun _ => 0) O rfl rfl rfl (fun _ => by kernel_rfl) ?_; clear O; intro W a2 O; simp only [Act.put, List.setIfInBounds_toArray, List.set_cons_zero, List.set_cons_succ])
    | (go_at_call 52; refine (CR.out _).mono ?_; rintro e W ⟨rfl, rfl⟩)
    | (refine wpList_const 12 (.agg (words 8 fun _ => 0)) rfl rfl (fun _ => by kernel_rfl) ?_; simp only [Act.put, List.setIfInBounds_toArray, List.set_cons_zero, List.set_cons_succ])
    | (refine own_store_row 0 (.tmp 2) (.tmp 12) O rfl rfl rfl rfl rfl rfl (by kernel_rfl) (by simp only [words_size]) (words_cell _ _) ?_; clear O; intro W O; simp only [List.set_cons_zero] at O))
  refine bodyPost_ret (v := .tuple #[.agg (words 8 fun _ => 0), .int .i64 3]) (results_cell_tmp rfl _ _ a2 33 _ _ rfl (O.get 0 rfl) Try.underlying33 rfl (by kernel_rfl) _ rfl) rfl ⟨?_, O.keep⟩
  rfl

set_option maxHeartbeats 1000000 in
theorem start_long (A : Option Addr) (n c : Nat) (w : World) (hz1 : 32 < (n : Int)) :
    Calls Try.prog 21 #[.slice A n c] w fun e w' => e = .returned (.tuple #[.agg (words 8 fun _ => 0), .int .i64 2]) ∧ Keeps w w' [] := by
  have O := Own.start w []
  have CR := Lib.hid fun w => (by have h := right_any A n c 32 w; rw [wEr_gt (by omega)] at h; exact h : Calls Try.prog 52 #[.slice A n c, .int .i64 32] w fun e w' => e = .returned (.int .i64 2) ∧ w = w')
  go_enter Try.func21, Try.ntmps21
  go_wp2_with (first
    | (refine own_alloc 2 (words 8 fun _ => 0) O rfl rfl rfl (fun _ => by kernel_rfl) ?_; clear O; intro W a2 O; simp only [Act.put, List.setIfInBounds_toArray, List.set_cons_zero, List.set_cons_succ])
    | (go_at_call 52; refine (CR.out _).mono ?_; rintro e W ⟨rfl, rfl⟩)
    | (refine wpList_const 12 (.agg (words 8 fun _ => 0)) rfl rfl (fun _ => by kernel_rfl) ?_; simp only [Act.put, List.setIfInBounds_toArray, List.set_cons_zero, List.set_cons_succ])
    | (refine own_store_row 0 (.tmp 2) (.tmp 12) O rfl rfl rfl rfl rfl rfl (by kernel_rfl) (by simp only [words_size]) (words_cell _ _) ?_; clear O; intro W O; simp only [List.set_cons_zero] at O))
  refine bodyPost_ret (v := .tuple #[.agg (words 8 fun _ => 0), .int .i64 2]) (results_cell_tmp rfl _ _ a2 33 _ _ rfl (O.get 0 rfl) Try.underlying33 rfl (by kernel_rfl) _ rfl) rfl ⟨?_, O.keep⟩
  rfl

theorem start_any (A : Option Addr) (n c : Nat) (f : Nat → BitVec 8) (w : World) (hb : Byt w A n f) (hn : n ≤ maxLen) :
    Calls Try.prog 21 #[.slice A n c] w fun e w' => e = .returned (.tuple #[.agg (words 8 (sSt n f)), .int .i64 (wEr n 32)]) ∧ Keeps w w' [] := by
  by_cases hz : n = 32
  · obtain ⟨ad, rfl, hB, hc⟩ := hb (by omega)
    subst hz
    rw [sSt_yes, wEr_eq]
    refine start_good (wV f) 32 c ad w rfl fun k hk W K KS => ?_
    have h := load32_any ad 32 c (4 * k) f W (by omega) (fun j hj => (World.cell?_of_block (by rw [add_block]; exact K _ hB)).trans (hc j hj)) (by omega) hn
    rw [show ((4 * k : Nat) : Int) = 4 * (k : Int) from by omega] at h
    exact h
  · rw [sSt_no n f hz]
    rcases Nat.lt_or_ge n 32 with h | h
    · rw [wEr_lt h]
      exact start_short A n c w (by omega)
    · have h' : 32 < n := by omega
      rw [wEr_gt h']
      exact start_long A n c w (by omega)

set_option maxHeartbeats 1000000 in
theorem refstart_good (G : Nat → BitVec 32) (n c : Nat) (ad : Addr) (w : World) (hz1 : (n : Int) = 32) (ld : ∀ k : Nat, k < 8 → ∀ W : World, (∀ b, b < w.heap.size → W.heap[b]? = w.heap[b]?) → w.heap.size ≤ W.heap.size → Calls Try.prog 54 #[.slice (some ad) n c, .int .i64 (4 * (k : Int))] W fun e w' => e = .returned (U32 (G k)) ∧ Keeps W w' []) :
    Calls Try.prog 22 #[.slice (some ad) n c] w fun e w' => e = .returned (.tuple #[.agg (words 8 fun i => ivV i ^^^ G i), .int .i64 0]) ∧ Keeps w w' [] := by
  have O := Own.start w []
  have CL := Lib.hid ld
  clear ld
  have HR := Lib.hid (show words 8 (sK G 8) = words 8 (fun i => ivV i ^^^ G i) from words_congr fun i hi => sK_all G 8 i hi)
  generalize (words 8 fun i => ivV i ^^^ G i) = R at *
  have HS := Lib.hid (sK_step G)
  have HZ := Lib.hid (sK_zero G)
  generalize sK G = S at *
  go_enter Try.func22, Try.ntmps22
  go_wp2_with (first
    | (refine own_alloc 2 (words 8 fun _ => 0) O rfl rfl rfl (fun _ => by kernel_rfl) ?_; clear O; intro W a2 O; simp only [Act.put, List.setIfInBounds_toArray, List.set_cons_zero, List.set_cons_succ])
    | (refine own_alloc 4 (words 8 fun _ => 0) O rfl rfl rfl (fun _ => by kernel_rfl) ?_; clear O; intro W a4 O; simp only [Act.put, List.setIfInBounds_toArray, List.set_cons_zero, List.set_cons_succ])
    | (go_at_call 24; refine (refiv_any _).mono ?_; rintro e W ⟨rfl, K⟩; replace O := O.keeps K; clear K)
    | (refine own_store_row 0 (.tmp 4) (.tmp 16) O rfl rfl rfl rfl rfl rfl (by kernel_rfl) (by simp only [words_size]) (words_cell _ _) ?_; clear O; intro W O; simp only [List.set_cons_zero] at O))
  clear hz1
  go_loopw [5] (fun i wr => ∃ k : Nat, k ≤ 8 ∧ i = .int .i64 k ∧ Own w wr [] [(a4, 33, words 8 (S k)), (a2, 33, words 8 fun _ => 0)]) (fun i _ => 8 - (intOf i).toNat)
  case atStart => exact ⟨0, by omega, rfl, O.put 0 rfl (words_congr fun i _ => HZ.out i)⟩
  case round =>
   obtain ⟨k, hk, rfl, O⟩ := hrel
   by_cases hlt : k < 8
   · have g1 : ((k : Int)) < 8 := by omega
     have m3 : IntKind.i64.wrap (4 * (k : Int)) = 4 * k := IntWalk.i64_in _ (by omega)
     go_wp2
     have c4 := Later.cell (O.get 0 rfl)
     refine wp_quiet_tail_later 10 (by kernel_rfl) (by kernel_rfl) ?_
     simp only [List.take, List.drop]
     repeat (go_big_quiet_step ((go_at_call 54; exact later_of (CL.out k hlt _ (fun b hb => ((O.keep.trans (Later.prop_ _) (by simp)).block b hb (by simp))) (Nat.le_trans O.keep.size (Later.prop_ _).size)))))
     refine wpQuiet_nil ?_
     intro _ hw
     obtain ⟨p, rfl⟩ := hw
     replace O := O.keeps p.2
     clear c4 m3
     generalize p.1 = W at O ⊢
     go_wp2_with (refine own_store 0 k (U32 (S k k ^^^ G k)) (.tmp 30) (.tmp 29) O rfl rfl rfl rfl rfl rfl (by simp only [words_size]; omega) rfl rfl (by kernel_rfl) (words_set 8 _ k _) ?_; clear O; intro W O; simp only [List.set_cons_zero] at O)
     go_roundw
     case rel => exact ⟨k + 1, by omega, by go_num, O.put 0 rfl (words_congr fun i _ => HS.out k i)⟩
     case measure => (simp [intOf] <;> omega)
   · obtain rfl : k = 8 := by omega
     go_wp2_with (first
       | (refine own_load 31 0 O rfl rfl rfl rfl rfl Try.underlying33 rfl (by kernel_rfl) ?_; simp only [Act.put, List.setIfInBounds_toArray, List.set_cons_zero, List.set_cons_succ])
       | (refine own_store_row 1 (.tmp 2) (.tmp 31) O rfl rfl rfl rfl rfl rfl (by kernel_rfl) (by simp only [words_size]) (words_cell _ _) ?_; clear O; intro W O; simp only [List.set_cons_zero, List.set_cons_succ] at O))
     refine bodyPost_ret (v := .tuple #[.agg (words 8 (S 8)), .int .i64 0]) (results_cell_tmp rfl _ _ a2 33 _ _ rfl (O.get 1 rfl) Try.underlying33 rfl (by kernel_rfl) _ rfl) rfl ⟨?_, O.keep⟩
     rw [HR.out]

set_option maxHeartbeats 1000000 in
theorem refstart_short (A : Option Addr) (n c : Nat) (w : World) (hz1 : (n : Int) < 32) :
    Calls Try.prog 22 #[.slice A n c] w fun e w' => e = .returned (.tuple #[.agg (words 8 fun _ => 0), .int .i64 3]) ∧ Keeps w w' [] := by
  have O := Own.start w []
  go_enter Try.func22, Try.ntmps22
  go_wp2_with (first
    | (refine own_alloc 2 (words 8 fun _ => 0) O rfl rfl rfl (fun _ => by kernel_rfl) ?_; clear O; intro W a2 O; simp only [Act.put, List.setIfInBounds_toArray, List.set_cons_zero, List.set_cons_succ])
    | (refine own_alloc 4 (words 8 fun _ => 0) O rfl rfl rfl (fun _ => by kernel_rfl) ?_; clear O; intro W a4 O; simp only [Act.put, List.setIfInBounds_toArray, List.set_cons_zero, List.set_cons_succ])
    | (refine own_load 10 0 O rfl rfl rfl rfl rfl Try.underlying33 rfl (by kernel_rfl) ?_; simp only [Act.put, List.setIfInBounds_toArray, List.set_cons_zero, List.set_cons_succ])
    | (refine own_store_row 1 (.tmp 2) (.tmp 10) O rfl rfl rfl rfl rfl rfl (by kernel_rfl) (by simp only [words_size]) (words_cell _ _) ?_; clear O; intro W O; simp only [List.set_cons_zero, List.set_cons_succ] at O))
  refine bodyPost_ret (v := .tuple #[.agg (words 8 fun _ => 0), .int .i64 3]) (results_cell_tmp rfl _ _ a2 33 _ _ rfl (O.get 1 rfl) Try.underlying33 rfl (by kernel_rfl) _ rfl) rfl ⟨?_, O.keep⟩
  rfl

set_option maxHeartbeats 1000000 in
theorem refstart_long (A : Option Addr) (n c : Nat) (w : World) (hz1 : 32 < (n : Int)) :
    Calls Try.prog 22 #[.slice A n c] w fun e w' => e = .returned (.tuple #[.agg (words 8 fun _ => 0), .int .i64 2]) ∧ Keeps w w' [] := by
  have O := Own.start w []
  have hz2 : ¬ (n : Int) < 32 := by omega
  go_enter Try.func22, Try.ntmps22
  go_wp2_with (first
    | (refine own_alloc 2 (words 8 fun _ => 0) O rfl rfl rfl (fun _ => by kernel_rfl) ?_; clear O; intro W a2 O; simp only [Act.put, List.setIfInBounds_toArray, List.set_cons_zero, List.set_cons_succ])
    | (refine own_alloc 4 (words 8 fun _ => 0) O rfl rfl rfl (fun _ => by kernel_rfl) ?_; clear O; intro W a4 O; simp only [Act.put, List.setIfInBounds_toArray, List.set_cons_zero, List.set_cons_succ])
    | (refine own_load 15 0 O rfl rfl rfl rfl rfl Try.underlying33 rfl (by kernel_rfl) ?_; simp only [Act.put, List.setIfInBounds_toArray, List.set_cons_zero, List.set_cons_succ])
    | (refine own_store_row 1 (.tmp 2) (.tmp 15) O rfl rfl rfl rfl rfl rfl (by kernel_rfl) (by simp only [words_size]) (words_cell _ _) ?_; clear O; intro W O; simp only [List.set_cons_zero, List.set_cons_succ] at O))
  refine bodyPost_ret (v := .tuple #[.agg (words 8 fun _ => 0), .int .i64 2]) (results_cell_tmp rfl _ _ a2 33 _ _ rfl (O.get 1 rfl) Try.underlying33 rfl (by kernel_rfl) _ rfl) rfl ⟨?_, O.keep⟩
  rfl

theorem refstart_any (A : Option Addr) (n c : Nat) (f : Nat → BitVec 8) (w : World) (hb : Byt w A n f) (hn : n ≤ maxLen) :
    Calls Try.prog 22 #[.slice A n c] w fun e w' => e = .returned (.tuple #[.agg (words 8 (sSt n f)), .int .i64 (wEr n 32)]) ∧ Keeps w w' [] := by
  by_cases hz : n = 32
  · obtain ⟨ad, rfl, hB, hc⟩ := hb (by omega)
    subst hz
    rw [sSt_yes, wEr_eq]
    refine refstart_good (wV f) 32 c ad w rfl fun k hk W K KS => ?_
    have h := refload_any ad 32 c (4 * k) f W (by omega) (fun j hj => (World.cell?_of_block (by rw [add_block]; exact K _ hB)).trans (hc j hj)) (by omega) hn
    rw [show ((4 * k : Nat) : Int) = 4 * (k : Int) from by omega] at h
    exact h
  · rw [sSt_no n f hz]
    rcases Nat.lt_or_ge n 32 with h | h
    · rw [wEr_lt h]
      exact refstart_short A n c w (by omega)
    · have h' : 32 < n := by omega
      rw [wEr_gt h']
      exact refstart_long A n c w (by omega)
end Go.Proofs.Ytanibkocihjgjaa

/-
  Chain of mixs and of the reference: whole blocks.
-/
import Derived.Test.YtanibkocihjgjaaB3
namespace Go.Proofs.Ytanibkocihjgjaa
open Go.RowKit

theorem results_cell_2 {P : Program} {fn : Func} {p q1 q2 : Tmp} {ty : TypeId} (h : fn.results = #[.cell p ty, .tmp q1, .tmp q2]) (tmps : Array Value) (w : World) (g : Nat) (t : TypeId) (cs : Array Value) (d : TypeDesc)
    (hp : tmps.getD p undef = .pointer (some ⟨g, 0, none⟩)) (hg : Blk w g t cs)
    (hu : P.underlying ty = some d) (hd : (match d with | .struct _ | .array _ _ => true | _ => false) = true) (hi : (P.info? ty).map (·.size) = some cs.size) (v1 v2 : Value) (h1 : tmps.getD q1 undef = v1) (h2 : tmps.getD q2 undef = v2) :
    (results fn tmps).run P w = .ok (.tuple #[.agg cs, v1, v2]) w := by
  have hp' : tmps[p]?.getD undef = .pointer (some ⟨g, 0, none⟩) := by simpa using hp
  subst h1 h2
  simp [results, h, hp', asAddr, run_loadVar_row w g t ty cs (0, 0) d hg hu hd hi]
@[go_sem] theorem add_64 (t : TypeId) (x : BitVec 64) : binOp .add t (U64 x) (.int .u64 64) = pure (U64 (x + 64#64)) := by
  have h : Value.int .u64 64 = U64 64#64 := rfl
  rw [h, add_U64]

/-! ### Cuts -/
theorem elem32 : Try.prog.underlying 32 = some (.slice (Try.prog.elem 32)) := by kernel_rfl
theorem size5 (w : World) : (sizeOf (Try.prog.elem 32)).run Try.prog w = .ok 1 w := by kernel_rfl
theorem cut_head (ad : Addr) (n c : Nat) (hc : 64 ≤ c) (w : World) : (Instr.slice 32 (.slice (some ad) n c) none (some (.int .i64 64)) none).run Try.prog w = .ok (.slice (some ad) 64 c) w := by
  rw [run_slice_h w 32 (some ad) n c elem32 .i64 64 (by omega) (by omega), size5]
  simp only [Result.andThen_ok, sliced]
  rw [if_neg (by omega)]
  simp [Addr.add_zero']
theorem cut_tail (A : Option Addr) (n c : Nat) (hn : 64 ≤ n) (w : World) : (Instr.slice 32 (.slice A n c) (some (.int .i64 64)) none none).run Try.prog w = .ok (.slice (if c = 64 then A else A.map (·.add 64)) (n - 64) (c - 64)) w := by
  rw [run_slice_l w 32 A n c elem32 .i64 64 (by omega) (by omega), size5]
  rfl
theorem cut_mid (ad : Addr) (n c k : Nat) (hc : 64 * k + 64 ≤ c) (w : World) : (Instr.slice 32 (.slice (some ad) n c) (some (.int .i64 (64 * k : Nat))) (some (.int .i64 (64 * k + 64 : Nat))) none).run Try.prog w = .ok (.slice (some (ad.add (64 * k))) 64 (c - 64 * k)) w := by
  rw [run_slice_lh w 32 (some ad) n c elem32 .i64 .i64 _ _ (by omega) (by omega) (by omega), size5]
  simp only [Result.andThen_ok, sliced, Int.toNat_natCast]
  rw [if_neg (by omega), show 64 * k + 64 - 64 * k = 64 from by omega, Nat.mul_one]
  rfl
theorem wpList_cut {ops : Array Oper} {rest : List Oper} {o : Oper} {a : Act} {w : World} {Q : Exit → Act → World → Prop} {x : Operand} {lo hi : Option Operand} (d : Nat) (v : Value) (_hd : o.dst = some d) (hgd : o.guard = none) (ho : o.op = .slice 32 x lo hi none)
    (hr : ∀ w, (Instr.slice 32 (a.eval x) (lo.map a.eval) (hi.map a.eval) none).run Try.prog w = .ok v w) (h : wpList Try.prog ops Q rest (a.put o.dst v) w) : wpList Try.prog ops Q (o :: rest) a w := by
  refine wpList_plain hgd fun K hK => ?_
  unfold Oper.wp execOp
  simp only [ho, Option.map_none, Sem.run_bind, run_sliceAt_slice _ _ _ _ _ _ elem32, hr, Result.andThen_ok, Sem.run_pure]
  exact hK _ _ h

def lenS : Value → Nat
  | .slice _ m _ => m
  | _ => 0
theorem lenS_slice (A : Option Addr) (m c : Nat) : lenS (.slice A m c) = m := rfl
/-! ### The chain -/
def ctK (cnt : BitVec 64) : Nat → BitVec 64
  | 0 => cnt
  | k + 1 => ctK cnt k + 64#64
def chH (H : Nat → BitVec 32) (f : Nat → BitVec 8) (cnt : BitVec 64) : Nat → Nat → BitVec 32
  | 0 => H
  | k + 1 => fV (chH H f cnt k) (wV fun j => f (64 * k + j)) (ctK cnt (k + 1)) false false
/-- What Chain answers. -/
def chA (H : Nat → BitVec 32) (n : Nat) (f : Nat → BitVec 8) (cnt : BitVec 64) : Value :=
  if n % 64 = 0 then .tuple #[.agg (words 8 (chH H f cnt (n / 64))), U64 (ctK cnt (n / 64)), .int .i64 0] else .tuple #[.agg (words 8 fun _ => 0), U64 0, .int .i64 1]
theorem chA_yes (H : Nat → BitVec 32) {n : Nat} (f : Nat → BitVec 8) (cnt : BitVec 64) (h : n % 64 = 0) : chA H n f cnt = .tuple #[.agg (words 8 (chH H f cnt (n / 64))), U64 (ctK cnt (n / 64)), .int .i64 0] := by unfold chA; rw [if_pos h]
theorem chA_no (H : Nat → BitVec 32) {n : Nat} (f : Nat → BitVec 8) (cnt : BitVec 64) (h : n % 64 ≠ 0) : chA H n f cnt = .tuple #[.agg (words 8 fun _ => 0), U64 0, .int .i64 1] := by unfold chA; rw [if_neg h]

theorem chain_bad (A : Option Addr) (n c : Nat) (f : Nat → BitVec 8) (H : Nat → BitVec 32) (cnt : BitVec 64) (w : World) (hn : n % 64 ≠ 0) :
    Calls Try.prog 45 #[.agg (words 8 H), .slice A n c, U64 cnt] w fun e w' => e = .returned (chA H n f cnt) ∧ Keeps w w' [] := by
  have O := Own.start w []
  rw [chA_no H f cnt hn]
  obtain ⟨q, hq⟩ : ∃ q : Int, q = ((n % 64 : Nat) : Int) := ⟨_, rfl⟩
  have rm : (n : Int).tmod 64 = q := by rw [hq, Int.tmod_eq_emod_of_nonneg (by omega)]; omega
  have hq0 : (q != 0) = true := by rw [bne_iff_ne]; omega
  clear hq hn
  go_enter Try.func45, Try.ntmps45
  go_wp2_with (first
    | (refine own_box 3 (words 8 H) O rfl rfl rfl rfl ?_; clear O; intro W a3 O; simp only [Act.put, List.setIfInBounds_toArray, List.set_cons_zero, List.set_cons_succ])
    | (refine own_alloc 6 (words 8 fun _ => 0) O rfl rfl rfl (fun _ => by kernel_rfl) ?_; clear O; intro W a6 O; simp only [Act.put, List.setIfInBounds_toArray, List.set_cons_zero, List.set_cons_succ])
    | (refine wpList_const 15 (.agg (words 8 fun _ => 0)) rfl rfl (fun _ => by kernel_rfl) ?_; simp only [Act.put, List.setIfInBounds_toArray, List.set_cons_zero, List.set_cons_succ])
    | (refine own_store_row 0 (.tmp 6) (.tmp 15) O rfl rfl rfl rfl rfl rfl (by kernel_rfl) (by simp only [words_size]) (words_cell _ _) ?_; clear O; intro W O; simp only [List.set_cons_zero] at O))
  refine bodyPost_ret (v := .tuple #[.agg (words 8 fun _ => 0), U64 0, .int .i64 1]) (results_cell_2 rfl _ _ a6 33 _ _ rfl (O.get 0 rfl) Try.underlying33 rfl (by kernel_rfl) _ _ rfl rfl) rfl ⟨?_, O.keep⟩
  rfl

set_option maxHeartbeats 2000000 in
theorem chain_good (A : Option Addr) (ad : Addr) (n c : Nat) (f : Nat → BitVec 8) (H : Nat → BitVec 32) (cnt : BitVec 64) (w : World) (hA : 0 < n → A = some ad) (hB : 0 < n → ad.block < w.heap.size) (hcl : ∀ j, j < n → w.cell? (ad.add j) = some (U8 (f j))) (hnc : n ≤ c) (hm : n ≤ maxLen) (hn : n % 64 = 0) :
    Calls Try.prog 45 #[.agg (words 8 H), .slice A n c, U64 cnt] w fun e w' => e = .returned (chA H n f cnt) ∧ Keeps w w' [] := by
  have O := Own.start w []
  rw [chA_yes H f cnt hn]
  have hm' : n ≤ 9223372036854775807 := hm
  have rm : (n : Int).tmod 64 = 0 := by rw [Int.tmod_eq_emod_of_nonneg (by omega)]; omega
  have BY : ∀ k (W : World), 64 * k + 64 ≤ n → Keeps w W [] → Byt W (some (ad.add (64 * k))) 64 (fun j => f (64 * k + j)) := fun k W hk K => fun _ => ⟨_, rfl, by rw [add_block]; have := K.size; have := hB (by omega); omega, fun j hj => by rw [Addr.add_add, K.cellAt (by rw [add_block]; exact hB (by omega)) (by simp)]; exact hcl _ (by omega)⟩
  have HBY := Lib.hid BY
  have HA := Lib.hid hA
  have WV := Lib.hid fun (g : Nat → BitVec 8) => wSt_yes g
  obtain ⟨N, hN⟩ : ∃ N, N = n / 64 := ⟨_, rfl⟩
  have hN2 : n = 64 * N := by omega
  rw [← hN]
  have HN2 := Lib.hid hN2
  clear hB hcl hn hN BY hA hN2
  go_enter Try.func45, Try.ntmps45
  go_wp2_with (first
    | (refine own_box 3 (words 8 H) O rfl rfl rfl rfl ?_; clear O; intro W a3 O; simp only [Act.put, List.setIfInBounds_toArray, List.set_cons_zero, List.set_cons_succ])
    | (refine own_alloc 6 (words 8 fun _ => 0) O rfl rfl rfl (fun _ => by kernel_rfl) ?_; clear O; intro W a6 O; simp only [Act.put, List.setIfInBounds_toArray, List.set_cons_zero, List.set_cons_succ]))
  clear rm
  go_loopw [1, 2] (fun v x wr => ∃ (k : Nat) (A' : Option Addr) (c' : Nat), k ≤ N ∧ v = .slice A' (64 * (N - k)) c' ∧ 64 * (N - k) ≤ c' ∧ (0 < N - k → A' = some (ad.add (64 * k))) ∧ x = U64 (ctK cnt k) ∧ Own w wr [] [(a6, 33, words 8 fun _ => 0), (a3, 33, words 8 (chH H f cnt k))]) (fun v _ _ => lenS v)
  case atStart => exact ⟨0, A, c, by omega, by rw [Nat.sub_zero, ← HN2.out], by have := HN2.out; omega, fun h => by rw [HA.out (by have := HN2.out; omega)]; simp [Addr.add_zero'], rfl, O⟩
  case round =>
    obtain ⟨k, A', c', hk, rfl, hc', hA', rfl, O⟩ := hrel
    by_cases hlt : k < N
    · have hA2 := hA' (by omega)
      subst hA2
      clear hA'
      obtain ⟨m, hm2⟩ : ∃ m, m = 64 * (N - k) := ⟨_, rfl⟩
      rw [← hm2] at hc' ⊢
      have g1 : (0 : Int) < m := by omega
      have gm : 64 ≤ m := by omega
      have HM := Lib.hid hm2
      clear hm2
      have by1 := HBY.out k
      obtain ⟨ad', had⟩ : ∃ ad', ad' = ad.add (64 * k) := ⟨_, rfl⟩
      rw [← had] at by1 ⊢
      have HBY1 := Lib.hid by1
      have HAD := Lib.hid had
      clear by1 had
      obtain ⟨A2, c2, hcut, hc2, hA2⟩ : ∃ (A2 : Option Addr) (c2 : Nat), (∀ w, (Instr.slice 32 (.slice (some ad') m c') (some (.int .i64 64)) none none).run Try.prog w = .ok (.slice A2 (m - 64) c2) w) ∧ m - 64 ≤ c2 ∧ (64 < m → A2 = some (ad'.add 64)) :=
        ⟨_, _, cut_tail (some ad') m c' gm, by omega, fun h => by rw [if_neg (by omega)]; rfl⟩
      have HC := Lib.hid (And.intro hcut (And.intro hc2 hA2))
      clear hcut hc2 hA2
      go_wp2_with (first
        | (refine wpList_cut 23 (.slice (some ad') 64 c') rfl rfl rfl (fun w => cut_head ad' m c' (by omega) w) ?_; simp only [Act.put, List.setIfInBounds_toArray, List.set_cons_zero, List.set_cons_succ])
        | (go_at_call 19; refine (words_any (some ad') 64 c' (fun j => f (64 * k + j)) _ (HBY1.out _ (by have := HN2.out; omega) O.keep) (by simp [maxLen])).mono ?_; rintro e W ⟨rfl, K⟩; rw [WV.out, wEr_eq]; replace O := O.keeps K; clear K)
        | (refine own_alloc 9 (words 16 fun _ => 0) O rfl rfl rfl (fun _ => by kernel_rfl) ?_; clear O; intro W a9 O; simp only [Act.put, List.setIfInBounds_toArray, List.set_cons_zero, List.set_cons_succ])
        | (refine own_store_row 0 (.tmp 9) (.tmp 25) O rfl rfl rfl rfl rfl rfl (by kernel_rfl) (by simp only [words_size]) (words_cell _ _) ?_; clear O; intro W O; simp only [List.set_cons_zero] at O)
        | (refine own_load 29 2 O rfl rfl rfl rfl rfl Try.underlying33 rfl (by kernel_rfl) ?_; simp only [Act.put, List.setIfInBounds_toArray, List.set_cons_zero, List.set_cons_succ])
        | (refine own_load 30 0 O rfl rfl rfl rfl rfl Try.underlying23 rfl (by kernel_rfl) ?_; simp only [Act.put, List.setIfInBounds_toArray, List.set_cons_zero, List.set_cons_succ])
        | (go_at_call 41; refine (f_any _ _ _ _ _ _).mono ?_; rintro e W ⟨rfl, K⟩; replace O := O.keeps K; clear K)
        | (refine own_store_row 2 (.tmp 3) (.tmp 32) O rfl rfl rfl rfl rfl rfl (by kernel_rfl) (by simp only [words_size]) (words_cell _ _) ?_; clear O; intro W O; simp only [List.set_cons_zero, List.set_cons_succ] at O)
        | (refine wpList_cut 20 (.slice A2 (m - 64) c2) rfl rfl rfl HC.out.1 ?_; simp only [Act.put, List.setIfInBounds_toArray, List.set_cons_zero, List.set_cons_succ]))
      go_roundw
      case rel =>
        have hm3 := HM.out
        refine ⟨k + 1, A2, c2, by omega, by rw [hm3, show 64 * (N - k) - 64 = 64 * (N - (k + 1)) from by omega], by have := HC.out.2.1; omega, fun h => ?_, rfl, O.drop_ 1⟩
        rw [HC.out.2.2 (by omega), HAD.out, Addr.add_add, show 64 * k + 64 = 64 * (k + 1) from by omega]
      case measure => (simp [lenS_slice] <;> omega)
    · obtain rfl : k = N := by omega
      have hz : (64 * (k - k) : Nat) = 0 := by omega
      rw [hz]
      clear hA' hc'
      go_wp2_with (first
        | (refine own_load 33 1 O rfl rfl rfl rfl rfl Try.underlying33 rfl (by kernel_rfl) ?_; simp only [Act.put, List.setIfInBounds_toArray, List.set_cons_zero, List.set_cons_succ])
        | (refine own_store_row 0 (.tmp 6) (.tmp 33) O rfl rfl rfl rfl rfl rfl (by kernel_rfl) (by simp only [words_size]) (words_cell _ _) ?_; clear O; intro W O; simp only [List.set_cons_zero] at O))
      refine bodyPost_ret (v := .tuple #[.agg (words 8 (chH H f cnt k)), U64 (ctK cnt k), .int .i64 0]) (results_cell_2 rfl _ _ a6 33 _ _ rfl (O.get 0 rfl) Try.underlying33 rfl (by kernel_rfl) _ _ rfl rfl) rfl ⟨?_, O.keep⟩
      rfl

theorem refchain_bad (A : Option Addr) (n c : Nat) (f : Nat → BitVec 8) (H : Nat → BitVec 32) (cnt : BitVec 64) (w : World) (hn : n % 64 ≠ 0) :
    Calls Try.prog 46 #[.agg (words 8 H), .slice A n c, U64 cnt] w fun e w' => e = .returned (chA H n f cnt) ∧ Keeps w w' [] := by
  have O := Own.start w []
  rw [chA_no H f cnt hn]
  obtain ⟨q, hq⟩ : ∃ q : Int, q = ((n % 64 : Nat) : Int) := ⟨_, rfl⟩
  have rm : (n : Int).tmod 64 = q := by rw [hq, Int.tmod_eq_emod_of_nonneg (by omega)]; omega
  have hq0 : (q != 0) = true := by rw [bne_iff_ne]; omega
  clear hq hn
  go_enter Try.func46, Try.ntmps46
  go_wp2_with (first
    | (refine own_box 3 (words 8 H) O rfl rfl rfl rfl ?_; clear O; intro W a3 O; simp only [Act.put, List.setIfInBounds_toArray, List.set_cons_zero, List.set_cons_succ])
    | (refine own_alloc 6 (words 8 fun _ => 0) O rfl rfl rfl (fun _ => by kernel_rfl) ?_; clear O; intro W a6 O; simp only [Act.put, List.setIfInBounds_toArray, List.set_cons_zero, List.set_cons_succ])
    | (refine wpList_const 16 (.agg (words 8 fun _ => 0)) rfl rfl (fun _ => by kernel_rfl) ?_; simp only [Act.put, List.setIfInBounds_toArray, List.set_cons_zero, List.set_cons_succ])
    | (refine own_store_row 0 (.tmp 6) (.tmp 16) O rfl rfl rfl rfl rfl rfl (by kernel_rfl) (by simp only [words_size]) (words_cell _ _) ?_; clear O; intro W O; simp only [List.set_cons_zero] at O))
  refine bodyPost_ret (v := .tuple #[.agg (words 8 fun _ => 0), U64 0, .int .i64 1]) (results_cell_2 rfl _ _ a6 33 _ _ rfl (O.get 0 rfl) Try.underlying33 rfl (by kernel_rfl) _ _ rfl rfl) rfl ⟨?_, O.keep⟩
  rfl

set_option maxHeartbeats 2000000 in
theorem refchain_good (A : Option Addr) (ad : Addr) (n c : Nat) (f : Nat → BitVec 8) (H : Nat → BitVec 32) (cnt : BitVec 64) (w : World) (hA : 0 < n → A = some ad) (hB : 0 < n → ad.block < w.heap.size) (hcl : ∀ j, j < n → w.cell? (ad.add j) = some (U8 (f j))) (hnc : n ≤ c) (hm : n ≤ maxLen) (hn : n % 64 = 0) :
    Calls Try.prog 46 #[.agg (words 8 H), .slice A n c, U64 cnt] w fun e w' => e = .returned (chA H n f cnt) ∧ Keeps w w' [] := by
  have O := Own.start w []
  rw [chA_yes H f cnt hn]
  have hm' : n ≤ 9223372036854775807 := hm
  have rm : (n : Int).tmod 64 = 0 := by rw [Int.tmod_eq_emod_of_nonneg (by omega)]; omega
  have BY : ∀ k (W : World), 64 * k + 64 ≤ n → Keeps w W [] → Byt W (some (ad.add (64 * k))) 64 (fun j => f (64 * k + j)) := fun k W hk K => fun _ => ⟨_, rfl, by rw [add_block]; have := K.size; have := hB (by omega); omega, fun j hj => by rw [Addr.add_add, K.cellAt (by rw [add_block]; exact hB (by omega)) (by simp)]; exact hcl _ (by omega)⟩
  have HBY := Lib.hid BY
  have HA := Lib.hid hA
  have WV := Lib.hid fun (g : Nat → BitVec 8) => wSt_yes g
  obtain ⟨N, hN⟩ : ∃ N, N = n / 64 := ⟨_, rfl⟩
  have hN2 : n = 64 * N := by omega
  rw [← hN]
  have HN2 := Lib.hid hN2
  clear hB hcl hn hN BY hA hN2
  go_enter Try.func46, Try.ntmps46
  go_wp2_with (first
    | (refine own_box 3 (words 8 H) O rfl rfl rfl rfl ?_; clear O; intro W a3 O; simp only [Act.put, List.setIfInBounds_toArray, List.set_cons_zero, List.set_cons_succ])
    | (refine own_alloc 6 (words 8 fun _ => 0) O rfl rfl rfl (fun _ => by kernel_rfl) ?_; clear O; intro W a6 O; simp only [Act.put, List.setIfInBounds_toArray, List.set_cons_zero, List.set_cons_succ]))
  clear rm
  go_loopw [9, 2] (fun i x wr => ∃ k : Nat, k ≤ N ∧ i = .int .i64 (64 * k : Nat) ∧ x = U64 (ctK cnt k) ∧ Own w wr [] [(a6, 33, words 8 fun _ => 0), (a3, 33, words 8 (chH H f cnt k))]) (fun i _ _ => n - (intOf i).toNat)
  case atStart => exact ⟨0, by omega, rfl, rfl, O⟩
  case round =>
    obtain ⟨k, hk, rfl, rfl, O⟩ := hrel
    by_cases hlt : k < N
    · have hA2 := HA.out (by have := HN2.out; omega)
      subst hA2
      have g1 : ((64 * k : Nat) : Int) < n := by have := HN2.out; omega
      have r1 : IntKind.i64.wrap (((64 * k : Nat) : Int) + 64) = ((64 * k + 64 : Nat) : Int) := by rw [show ((64 * k + 64 : Nat) : Int) = ((64 * k : Nat) : Int) + 64 from by omega]; exact IntWalk.i64_in _ (by have := HN2.out; omega)
      have HR1 := Lib.hid r1
      have CM := Lib.hid (cut_mid ad n c k (by have := HN2.out; omega))
      obtain ⟨q, hq⟩ : ∃ q : Nat, q = 64 * k := ⟨_, rfl⟩
      obtain ⟨q2, hq2⟩ : ∃ q2 : Nat, q2 = 64 * k + 64 := ⟨_, rfl⟩
      have by1 := HBY.out k
      have cm := CM.out
      rw [← hq2, ← hq] at cm
      rw [← hq] at by1
      rw [← hq2, ← hq] at r1
      rw [← hq] at g1 ⊢
      have HCM := Lib.hid cm
      have HBY1 := Lib.hid by1
      have HQ := Lib.hid hq
      have HQ2 := Lib.hid hq2
      clear HR1 CM by1 cm hq hq2
      go_wp2_with (first
        | (refine wpList_cut 30 (.slice (some (ad.add q)) 64 (c - q)) rfl rfl rfl HCM.out ?_; simp only [Act.put, List.setIfInBounds_toArray, List.set_cons_zero, List.set_cons_succ])
        | (go_at_call 20; refine (refwords_any (some (ad.add q)) 64 (c - q) (fun j => f (q + j)) _ (HBY1.out _ (by have := HN2.out; have := HQ.out; omega) O.keep) (by simp [maxLen])).mono ?_; rintro e W ⟨rfl, K⟩; rw [WV.out, wEr_eq]; replace O := O.keeps K; clear K)
        | (refine own_alloc 10 (words 16 fun _ => 0) O rfl rfl rfl (fun _ => by kernel_rfl) ?_; clear O; intro W a10 O; simp only [Act.put, List.setIfInBounds_toArray, List.set_cons_zero, List.set_cons_succ])
        | (refine own_store_row 0 (.tmp 10) (.tmp 32) O rfl rfl rfl rfl rfl rfl (by kernel_rfl) (by simp only [words_size]) (words_cell _ _) ?_; clear O; intro W O; simp only [List.set_cons_zero] at O)
        | (refine own_load 34 2 O rfl rfl rfl rfl rfl Try.underlying33 rfl (by kernel_rfl) ?_; simp only [Act.put, List.setIfInBounds_toArray, List.set_cons_zero, List.set_cons_succ])
        | (refine own_load 35 0 O rfl rfl rfl rfl rfl Try.underlying23 rfl (by kernel_rfl) ?_; simp only [Act.put, List.setIfInBounds_toArray, List.set_cons_zero, List.set_cons_succ])
        | (go_at_call 42; refine (reff_any _ _ _ _ _ _).mono ?_; rintro e W ⟨rfl, K⟩; replace O := O.keeps K; clear K)
        | (refine own_store_row 2 (.tmp 3) (.tmp 37) O rfl rfl rfl rfl rfl rfl (by kernel_rfl) (by simp only [words_size]) (words_cell _ _) ?_; clear O; intro W O; simp only [List.set_cons_zero, List.set_cons_succ] at O))
      clear HCM HBY1
      go_roundw
      case rel => exact ⟨k + 1, by omega, by rw [HQ2.out]; rfl, rfl, by rw [HQ.out] at O; exact O.drop_ 1⟩
      case measure => (have := HN2.out; have := HQ.out; have := HQ2.out; simp only [intOf, Int.toNat_natCast]; omega)
    · obtain rfl : k = N := by omega
      have hz : ¬ ((64 * k : Nat) : Int) < n := by have := HN2.out; omega
      go_wp2_with (first
        | (refine own_load 38 1 O rfl rfl rfl rfl rfl Try.underlying33 rfl (by kernel_rfl) ?_; simp only [Act.put, List.setIfInBounds_toArray, List.set_cons_zero, List.set_cons_succ])
        | (refine own_store_row 0 (.tmp 6) (.tmp 38) O rfl rfl rfl rfl rfl rfl (by kernel_rfl) (by simp only [words_size]) (words_cell _ _) ?_; clear O; intro W O; simp only [List.set_cons_zero] at O))
      refine bodyPost_ret (v := .tuple #[.agg (words 8 (chH H f cnt k)), U64 (ctK cnt k), .int .i64 0]) (results_cell_2 rfl _ _ a6 33 _ _ rfl (O.get 0 rfl) Try.underlying33 rfl (by kernel_rfl) _ _ rfl rfl) rfl ⟨?_, O.keep⟩
      rfl

theorem chain_any (A : Option Addr) (n c : Nat) (f : Nat → BitVec 8) (H : Nat → BitVec 32) (cnt : BitVec 64) (w : World) (hb : Byt w A n f) (hnc : n ≤ c) (hm : n ≤ maxLen) :
    Calls Try.prog 45 #[.agg (words 8 H), .slice A n c, U64 cnt] w fun e w' => e = .returned (chA H n f cnt) ∧ Keeps w w' [] := by
  by_cases hn : n % 64 = 0
  · rcases Nat.eq_zero_or_pos n with h0 | h0
    · exact chain_good A ⟨0, 0, none⟩ n c f H cnt w (fun h => by omega) (fun h => by omega) (fun j hj => by omega) hnc hm hn
    · obtain ⟨ad, e, hB, hc⟩ := hb h0
      exact chain_good A ad n c f H cnt w (fun _ => e) (fun _ => hB) hc hnc hm hn
  · exact chain_bad A n c f H cnt w hn

theorem refchain_any (A : Option Addr) (n c : Nat) (f : Nat → BitVec 8) (H : Nat → BitVec 32) (cnt : BitVec 64) (w : World) (hb : Byt w A n f) (hnc : n ≤ c) (hm : n ≤ maxLen) :
    Calls Try.prog 46 #[.agg (words 8 H), .slice A n c, U64 cnt] w fun e w' => e = .returned (chA H n f cnt) ∧ Keeps w w' [] := by
  by_cases hn : n % 64 = 0
  · rcases Nat.eq_zero_or_pos n with h0 | h0
    · exact refchain_good A ⟨0, 0, none⟩ n c f H cnt w (fun h => by omega) (fun h => by omega) (fun j hj => by omega) hnc hm hn
    · obtain ⟨ad, e, hB, hc⟩ := hb h0
      exact refchain_good A ad n c f H cnt w (fun _ => e) (fun _ => hB) hc hnc hm hn
  · exact refchain_bad A n c f H cnt w hn
end Go.Proofs.Ytanibkocihjgjaa

/-
  The world at first (sched's begun).
-/
import Derived.Test.YtakmcpadkanggaaHeld3
import Derived.Test.YtakmcpadkanggaaT31b
namespace Go.Proofs.Ytakmcpadkanggaa
open Go.RowKit Go.Maps Go.Deep

theorem Own.join {w W W' : World} {L L' : List Ent} (O : Own w W [] L) (O' : Own W W' [] L') : Own w W' [] (L' ++ L) := by
  have far : ∀ q ∈ L', W.heap.size ≤ q.1 := fun q hq => by
    rcases Nat.lt_or_ge q.1 W.heap.size with h | h
    · exact absurd (O'.new q hq h) (by simp)
    · exact h
  have low : ∀ q ∈ L, q.1 < W.heap.size := fun q hq => (O.blk q hq).lt
  refine ⟨O.keep.trans O'.keep (by simp), fun q hq => ?_, fun q hq hlt => ?_, ?_⟩
  · rcases List.mem_append.1 hq with hq | hq
    · exact O'.blk q hq
    · exact (O.blk q hq).keeps O'.keep (by simp)
  · rcases List.mem_append.1 hq with hq | hq
    · have h1 := far q hq
      have h2 := O.keep.size
      omega
    · exact O.new q hq hlt
  · rw [List.map_append, List.nodup_append]
    refine ⟨O'.nd, O.nd, fun x hx y hy => ?_⟩
    obtain ⟨q, hq, rfl⟩ := List.mem_map.1 hx
    obtain ⟨p, hp, rfl⟩ := List.mem_map.1 hy
    have h1 := far q hq
    have h2 := low p hp
    omega
theorem made_R : madeCells (Value.agg (rnC ⟨0, 0, fun _ => 0⟩)).cells 10 = rnC ⟨0, 0, fun _ => 0⟩ := by kernel_rfl
theorem made_P (n : Nat) : madeCells (Value.agg #[.slice none 0 0, .bool false]).cells (n * 2) = pipesA n (fun _ => .slice none 0 0) (fun _ => false) := by
  apply Array.ext_getElem?
  intro j
  by_cases hj : j < n * 2
  · have h2 : j % 2 = 0 ∨ j % 2 = 1 := by omega
    rcases h2 with h2 | h2 <;> simp [madeCells, pipesA, hj, h2, Value.cells]
  · simp [madeCells, pipesA, hj]
theorem made_I' (n : Nat) : madeCells (Value.int .i64 0).cells (n * 1) = arrI n fun _ => 0 := by rw [Nat.mul_one]; exact made_I n
theorem made_B' (n : Nat) : madeCells (Value.bool false).cells (n * 1) = arrB n fun _ => false := by rw [Nat.mul_one]; exact made_B n
/-- The rows that are made: their types and cells. -/
def TYf : Nat → Nat
  | 0 => 174
  | 1 => 186
  | 2 => 4
  | _ => 3
def CSf (S : Sys) (lk gr ce : Nat) : Nat → Array Value
  | 0 => rnC ⟨0, 0, fun _ => 0⟩
  | 1 => pipesA S.nr (fun _ => .slice none 0 0) (fun _ => false)
  | 2 => arrB lk fun _ => false
  | 3 => arrI gr fun _ => 0
  | _ => arrI ce fun _ => 0
def NNf (S : Sys) (lk gr ce : Nat) : Nat → Nat
  | 0 => 1
  | 1 => S.nr
  | 2 => lk
  | 3 => gr
  | _ => ce
def TMf (S : Sys) (lk gr ce : Nat) (j : Nat) (g : Option Nat) : Value := match g with | none => undef | some b => .slice (some ⟨b, 0, none⟩) (NNf S lk gr ce j) (NNf S lk gr ce j)
structure MK (w : World) (S : Sys) (lk gr ce : Nat) (gs : Nat → Option Nat) (u : World) : Prop where
  keep : Keeps w u []
  blk : ∀ j, j < 5 → ∀ g, gs j = some g → w.heap.size ≤ g ∧ Blk u g (TYf j) (CSf S lk gr ce j)
  nd : ∀ i j, i < 5 → j < 5 → i ≠ j → ∀ g, gs i = some g → gs j ≠ some g
theorem MK.add {w u v : World} {S : Sys} {lk gr ce : Nat} {gs : Nat → Option Nat} (h : MK w S lk gr ce gs u) (j : Nat) (hj : gs j = none) (k : Keeps u v []) (_hs : v.heap.size = u.heap.size + 1) (b : Blk v u.heap.size (TYf j) (CSf S lk gr ce j)) : MK w S lk gr ce (updN gs j (some u.heap.size)) v := by
  refine ⟨h.keep.trans k (by simp), fun i hi g hg => ?_, fun i i' hi hi' hne g hg hg' => ?_⟩
  · by_cases e : i = j
    · subst e
      rw [updN_same] at hg
      cases hg
      exact ⟨h.keep.size, b⟩
    · rw [updN_other _ _ _ _ e] at hg
      obtain ⟨h1, h2⟩ := h.blk i hi g hg
      exact ⟨h1, h2.keeps k (by simp)⟩
  · have old : ∀ i, i < 5 → i ≠ j → updN gs j (some u.heap.size) i = some g → g < u.heap.size := fun i hi e hg => by
      rw [updN_other _ _ _ _ e] at hg
      exact (h.blk i hi g hg).2.lt
    by_cases e : i = j
    · subst e
      rw [updN_same] at hg
      cases hg
      exact absurd (old i' hi' (fun e => hne e.symm) hg') (by omega)
    · by_cases e' : i' = j
      · subst e'
        rw [updN_same] at hg'
        cases hg'
        exact absurd (old i hi e hg) (by omega)
      · rw [updN_other _ _ _ _ e] at hg
        rw [updN_other _ _ _ _ e'] at hg'
        exact h.nd i i' hi hi' hne g hg hg'
theorem MK.owns {w u : World} {S : Sys} {lk gr ce : Nat} {gs : Nat → Option Nat} (h : MK w S lk gr ce gs u) {g0 g1 g2 g3 g4 : Nat} (e0 : gs 0 = some g0) (e1 : gs 1 = some g1) (e2 : gs 2 = some g2) (e3 : gs 3 = some g3) (e4 : gs 4 = some g4) :
    Own w u [] [(g0, 174, rnC ⟨0, 0, fun _ => 0⟩), (g1, 186, pipesA S.nr (fun _ => .slice none 0 0) (fun _ => false)), (g2, 4, arrB lk fun _ => false), (g3, 3, arrI gr fun _ => 0), (g4, 3, arrI ce fun _ => 0)] := by
  obtain ⟨a0, b0⟩ := h.blk 0 (by omega) _ e0
  obtain ⟨a1, b1⟩ := h.blk 1 (by omega) _ e1
  obtain ⟨a2, b2⟩ := h.blk 2 (by omega) _ e2
  obtain ⟨a3, b3⟩ := h.blk 3 (by omega) _ e3
  obtain ⟨a4, b4⟩ := h.blk 4 (by omega) _ e4
  have n : ∀ i j, i < 5 → j < 5 → i ≠ j → ∀ g g', gs i = some g → gs j = some g' → g ≠ g' := fun i j hi hj hne g g' hg hg' e => h.nd i j hi hj hne g hg (by rw [e]; exact hg')
  refine ⟨h.keep, fun q hq => ?_, fun q hq hlt => ?_, ?_⟩
  · simp only [List.mem_cons, List.not_mem_nil, or_false] at hq
    rcases hq with rfl | rfl | rfl | rfl | rfl
    · exact b0
    · exact b1
    · exact b2
    · exact b3
    · exact b4
  · simp only [List.mem_cons, List.not_mem_nil, or_false] at hq
    rcases hq with rfl | rfl | rfl | rfl | rfl <;> simp only at hlt <;> omega
  · have n01 := n 0 1 (by omega) (by omega) (by omega) _ _ e0 e1
    have n02 := n 0 2 (by omega) (by omega) (by omega) _ _ e0 e2
    have n03 := n 0 3 (by omega) (by omega) (by omega) _ _ e0 e3
    have n04 := n 0 4 (by omega) (by omega) (by omega) _ _ e0 e4
    have n12 := n 1 2 (by omega) (by omega) (by omega) _ _ e1 e2
    have n13 := n 1 3 (by omega) (by omega) (by omega) _ _ e1 e3
    have n14 := n 1 4 (by omega) (by omega) (by omega) _ _ e1 e4
    have n23 := n 2 3 (by omega) (by omega) (by omega) _ _ e2 e3
    have n24 := n 2 4 (by omega) (by omega) (by omega) _ _ e2 e4
    have n34 := n 3 4 (by omega) (by omega) (by omega) _ _ e3 e4
    simp [*]
section
variable {w : World} {S : Sys} {A : Option Addr} {c : Nat} {R : Option Addr} {d : Nat} {ps lk gr ce : Nat}
set_option maxRecDepth 100000 in
set_option maxHeartbeats 4000000 in
theorem begun_any (hB : Blk w ps 27 (sysV S A c R d)) (hnr : S.nr ≤ 1000) (hlk : S.lk = (lk : Int)) (hgr : S.gr = (gr : Int)) (hce : S.ce = (ce : Int)) (l1 : lk ≤ 1000) (l2 : gr ≤ 1000) (l3 : ce ≤ 1000) : Calls Try.prog 56 #[.pointer (some ⟨ps, 0, none⟩)] w fun e w' =>
    ∃ wp gw bp bl bg bc, e = .returned (.pointer (some ⟨wp, 0, none⟩)) ∧ Own w w' [] [(wp, 110, wpC ⟨ps, wp, bp, bl, bg, bc, lk, gr, ce⟩ S.nr gw 1 1 (.slice none 0 0)), (gw, 174, rnC ⟨0, 0, fun _ => 0⟩), (bp, 186, pipesA S.nr (fun _ => .slice none 0 0) (fun _ => false)), (bl, 4, arrB lk fun _ => false), (bg, 3, arrI gr fun _ => 0), (bc, 3, arrI ce fun _ => 0)] := by
  have HS := Lib.hid (fun u (k : Keeps w u []) i => ((hB.keeps k (by simp)).cell i).trans (show (sysV S A c R d)[i]? = #[Value.slice A S.np c, .slice R S.nr d, .int .i64 (gr : Int), .int .i64 (lk : Int), .int .i64 (ce : Int)][i]? by unfold sysV; rw [hlk, hgr, hce]))
  clear hB hlk hgr hce
  go_enter Try.func56, Try.ntmps56
  go_wp2
  refine wp_headH (S := fun u => ∀ i, u.cell? ⟨ps, i, none⟩ = #[Value.slice A S.np c, .slice R S.nr d, .int .i64 (gr : Int), .int .i64 (lk : Int), .int .i64 (ce : Int)][i]?) 23 (by kernel_rfl) (by kernel_rfl) ?_
  have HK := Lib.hid (show Keeps w w.drew [] from (Keeps.refl _ _).drew)
  refine ah_take (f := 5) (L' := #[true, false, true, true, true, true, true, false, true, true, true, true, false, true, true, true, true, false, true, true, true, true, false, false, false, false]) (HS.out _ HK.out) [0, 2, 3, 4, 5, 6, 8, 9, 10, 11, 13, 14, 15, 16, 18, 19, 20, 21] [_, _, _, _, _, _, _, _, _, _, _, _, _, _, _, _, _, _] _ _ rfl (by decide) (by kernel_rfl) ?_
  simp only [List.getElem_toArray, List.getElem_cons_zero, List.getElem_cons_succ]
  repeat (first
    | (refine take_pure (v := ?_) (by rfl) ?_ ?_; rotate_left; (· (intro w hSw; go_simp; try with_reducible rfl)); simp only [Act.put, List.setIfInBounds_toArray, List.set_cons_zero, List.set_cons_succ]))
  refine takeA_done ?_
  refine ah_makes 5 (fun j => match j with | 0 => 1 | 1 => 7 | 2 => 12 | 3 => 17 | _ => 22) (fun b => #[true, b 0, true, true, true, true, true, b 1, true, true, true, true, b 2, true, true, true, true, b 3, true, true, true, true, b 4, false, false, false]) (fun gs => { tmps := #[Value.pointer (some ⟨ps, 0, none⟩), undef, Value.pointer none, Value.pointer (some ⟨ps, 0, none⟩), TMf S lk gr ce 0 (gs 0), Value.pointer (some ⟨ps, 0, none⟩), Value.pointer (some ⟨ps, 0, none⟩), Value.pointer (some ⟨ps, 1, none⟩), Value.slice R S.nr d, Value.int .i64 (S.nr : Int), TMf S lk gr ce 1 (gs 1), Value.pointer (some ⟨ps, 0, none⟩), Value.pointer (some ⟨ps, 0, none⟩), Value.pointer (some ⟨ps, 3, none⟩), Value.int .i64 (lk : Int), TMf S lk gr ce 2 (gs 2), Value.pointer (some ⟨ps, 0, none⟩), Value.pointer (some ⟨ps, 0, none⟩), Value.pointer (some ⟨ps, 2, none⟩), Value.int .i64 (gr : Int), TMf S lk gr ce 3 (gs 3), Value.pointer (some ⟨ps, 0, none⟩), Value.pointer (some ⟨ps, 0, none⟩), Value.pointer (some ⟨ps, 4, none⟩), Value.int .i64 (ce : Int), TMf S lk gr ce 4 (gs 4), undef, undef], defers := [] }) (MK w S lk gr ce) (fun j hj => ?_) (fun b hb => ?_) (fun b j hj => ?_) (fun gs u h => HS.out u h.keep) (fun j hj => ?_) (fun gs u hall h => ?_) 5 (fun _ => none) _ rfl ⟨HK.out, fun j hj g h => (by cases h), fun i j _ _ _ g h => (by cases h)⟩
  · match j, hj with
    | 0, _ => decide
    | 1, _ => decide
    | 2, _ => decide
    | 3, _ => decide
    | 4, _ => decide
  · rw [show List.range 5 = [0, 1, 2, 3, 4] from rfl] at hb ⊢
    simp only [List.filter_cons, List.filter_nil] at hb ⊢
    generalize b 0 = b0 at hb ⊢
    generalize b 1 = b1 at hb ⊢
    generalize b 2 = b2 at hb ⊢
    generalize b 3 = b3 at hb ⊢
    generalize b 4 = b4 at hb ⊢
    cases b0 <;> cases b1 <;> cases b2 <;> cases b3 <;> cases b4 <;> first | (exact absurd rfl hb) | kernel_rfl
  · match j, hj with
    | 0, _ => simp [updN]
    | 1, _ => simp [updN]
    | 2, _ => simp [updN]
    | 3, _ => simp [updN]
    | 4, _ => simp [updN]
  · match j, hj with
    | 0, _ =>
      refine ⟨_, rfl, fun gs u K' HK hnone h => ?_⟩
      refine wpList_make 4 107 174 10 1 10 80 (.agg (rnC ⟨0, 0, fun _ => 0⟩)) rfl rfl rfl rfl Try.underlying107 (by kernel_rfl) (by decide) (by first | omega | decide) rfl fun v kp hsz hB => ?_
      have hA := h v u.heap.size (HK.add 0 hnone kp hsz (by rw [made_R] at hB; exact hB))
      simpa [Act.put, updN, TMf, NNf] using hA
    | 1, _ =>
      refine ⟨_, rfl, fun gs u K' HK hnone h => ?_⟩
      refine wpList_make 10 108 186 (S.nr * 2) S.nr 2 32 (.agg #[.slice none 0 0, .bool false]) rfl rfl rfl rfl Try.underlying108 (by kernel_rfl) (by decide) (by first | omega | decide) rfl fun v kp hsz hB => ?_
      have hA := h v u.heap.size (HK.add 1 hnone kp hsz (by rw [made_P S.nr] at hB; exact hB))
      simpa [Act.put, updN, TMf, NNf] using hA
    | 2, _ =>
      refine ⟨_, rfl, fun gs u K' HK hnone h => ?_⟩
      refine wpList_make 15 41 4 (lk * 1) lk 1 1 (.bool false) rfl rfl rfl rfl Try.underlying41 (by kernel_rfl) (by decide) (by first | omega | decide) rfl fun v kp hsz hB => ?_
      have hA := h v u.heap.size (HK.add 2 hnone kp hsz (by rw [made_B' lk] at hB; exact hB))
      simpa [Act.put, updN, TMf, NNf] using hA
    | 3, _ =>
      refine ⟨_, rfl, fun gs u K' HK hnone h => ?_⟩
      refine wpList_make 20 25 3 (gr * 1) gr 1 8 (.int .i64 0) rfl rfl rfl rfl Try.underlying25 (by kernel_rfl) (by decide) (by first | omega | decide) rfl fun v kp hsz hB => ?_
      have hA := h v u.heap.size (HK.add 3 hnone kp hsz (by rw [made_I' gr] at hB; exact hB))
      simpa [Act.put, updN, TMf, NNf] using hA
    | 4, _ =>
      refine ⟨_, rfl, fun gs u K' HK hnone h => ?_⟩
      refine wpList_make 25 25 3 (ce * 1) ce 1 8 (.int .i64 0) rfl rfl rfl rfl Try.underlying25 (by kernel_rfl) (by decide) (by first | omega | decide) rfl fun v kp hsz hB => ?_
      have hA := h v u.heap.size (HK.add 4 hnone kp hsz (by rw [made_I' ce] at hB; exact hB))
      simpa [Act.put, updN, TMf, NNf] using hA
  · obtain ⟨g0, e0⟩ := Option.isSome_iff_exists.1 (hall 0 (by omega))
    obtain ⟨g1, e1⟩ := Option.isSome_iff_exists.1 (hall 1 (by omega))
    obtain ⟨g2, e2⟩ := Option.isSome_iff_exists.1 (hall 2 (by omega))
    obtain ⟨g3, e3⟩ := Option.isSome_iff_exists.1 (hall 3 (by omega))
    obtain ⟨g4, e4⟩ := Option.isSome_iff_exists.1 (hall 4 (by omega))
    simp only [e0, e1, e2, e3, e4, Option.isSome_some, TMf, NNf]
    have O := h.owns e0 e1 e2 e3 e4
    refine ah_tail (by kernel_rfl) ?_
    simp only [List.drop]
    go_wp2_with (first
      | (refine wpList_const 26 (.agg (wpC ⟨ps, 0, g1, g2, g3, g4, lk, gr, ce⟩ S.nr g0 1 1 (.slice none 0 0))) rfl rfl (fun _ => by kernel_rfl) ?_; simp only [Act.put, List.setIfInBounds_toArray, List.set_cons_zero, List.set_cons_succ])
      | (refine own_box 27 _ O rfl rfl rfl rfl ?_; clear O; intro W wp O; simp only [Act.put, List.setIfInBounds_toArray, List.set_cons_zero, List.set_cons_succ])
      | go_big_skip)
    refine np_intro ?_
    go_wp2
    go_ret
    exact ⟨wp, g0, g1, g2, g3, g4, rfl, O⟩
end
end Go.Proofs.Ytakmcpadkanggaa

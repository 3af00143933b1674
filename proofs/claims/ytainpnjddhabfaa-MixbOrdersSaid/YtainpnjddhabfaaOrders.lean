/-
  MixbOrders: for every round number each row of Sigma has each place once, and rows ten and twenty apart are the same; the law returns true for every input.
-/
import Derived.Test.YtainpnjddhabfaaRows
import Derived.Test.YtainpnjddhabfaaLaw
import Derived.Test.YtainpnjddhabfaaW5
namespace Go.Proofs.Ytainpnjddhabfaa
open Go.ChangeShapes Go.WideShapes Go.ChangeAt Go.RowKit

/-- How often place p is among the first k of row q. -/
def cnt (q k p : Nat) : Nat := ((List.range k).filter fun j => sig q j == p).length
def updN (f : Nat → Nat) (i x : Nat) : Nat → Nat := fun j => if j = i then x else f j
theorem ints_set (n : Nat) (f : Nat → Nat) (i x : Nat) : (ints n f).setIfInBounds i (.int .i64 (x : Nat)) = ints n (updN f i x) := by
  apply Array.ext_getElem?
  intro j
  by_cases hj : j < n
  · rw [Array.getElem?_setIfInBounds, ints_get _ _ _ hj, ints_get _ _ _ hj, ints_size]
    by_cases h : i = j
    · subst h; simp [updN, hj]
    · rw [if_neg h]; simp [updN, show ¬ j = i from fun e => h e.symm]
  · rw [Array.getElem?_eq_none (by simp [ints_size]; omega), Array.getElem?_eq_none (by simp [ints_size]; omega)]
theorem ints_congr {n : Nat} {f g : Nat → Nat} (h : ∀ i, i < n → f i = g i) : ints n f = ints n g := by
  apply Array.ext_getElem?
  intro j
  by_cases hj : j < n
  · rw [ints_get _ _ _ hj, ints_get _ _ _ hj, h j hj]
  · rw [Array.getElem?_eq_none (by simp [ints_size]; omega), Array.getElem?_eq_none (by simp [ints_size]; omega)]
theorem cnt_zero (q p : Nat) : cnt q 0 p = 0 := rfl
theorem cnt_le (q k p : Nat) : cnt q k p ≤ k := by
  unfold cnt
  exact Nat.le_trans (List.length_filter_le _ _) (by simp)
theorem cnt_succ (q k p : Nat) : updN (cnt q k) (sig q k) (cnt q k (sig q k) + 1) p = cnt q (k + 1) p := by
  unfold updN cnt
  rw [List.range_succ, List.filter_append]
  by_cases h : p = sig q k
  · subst h; simp
  · have h' : ¬ sig q k = p := fun e => h e.symm
    simp [h, h']
theorem cnt_one : ∀ q : Fin 10, ∀ p : Fin 16, cnt q.1 16 p.1 = 1 := by decide +kernel
theorem sig_lt (q j : Nat) (hq : q < 10) (hj : j < 16) : sig q j < 16 := by
  have h : ∀ q : Fin 10, ∀ p : Fin 16, sig q.1 p.1 < 16 := by decide +kernel
  exact h ⟨q, hq⟩ ⟨j, hj⟩

theorem orders_walk (r : Int) (hr : -32768 ≤ r ∧ r ≤ 32767) (w : World) : Calls Try.prog 4 #[.int .i16 r] w fun e w' => e = .returned (.bool true) ∧ Keeps w w' [] := by
  have e1 : row (r + 10) = row r := by unfold row; omega
  have e2 : row (r - 20) = row r := by unfold row; omega
  have hq := row_lt r
  have E1 := Lib.hid e1
  have E2 := Lib.hid e2
  clear e1 e2
  generalize hqq : row r = q at *
  have HQ := Lib.hid hqq
  clear hqq
  go_enter Try.func4, Try.ntmps4
  go_wp2_with (first
    | (go_at_call 14; refine (sigma_any _ _).mono ?_; rintro e W0 ⟨he, K0⟩; rw [HQ.out] at he; subst he)
    | (refine wpList_alloc 3 (ints 16 fun _ => 0) rfl rfl rfl (fun _ => by kernel_rfl) ?_; intro W1 K1 B1 s1; simp only [Act.put, List.setIfInBounds_toArray, List.set_cons_zero, List.set_cons_succ])
    | (refine wpList_alloc 4 (ints 16 fun _ => 0) rfl rfl rfl (fun _ => by kernel_rfl) ?_; intro W3 K3 B3 s3; simp only [Act.put, List.setIfInBounds_toArray, List.set_cons_zero, List.set_cons_succ])
    | (refine wpList_const 10 (.agg (ints 16 fun _ => 0)) rfl rfl (fun _ => by kernel_rfl) ?_; simp only [Act.put, List.setIfInBounds_toArray, List.set_cons_zero, List.set_cons_succ])
    | (refine wpList_store_row (.tmp 3) (.tmp 9) rfl rfl rfl rfl rfl B1 (by kernel_rfl) (by simp only [ints_size]) (ints_cell _ _) ?_; intro W2 K2 B2)
    | (refine wpList_store_row (.tmp 4) (.tmp 10) rfl rfl rfl rfl rfl B3 (by kernel_rfl) (by simp only [ints_size]) (ints_cell _ _) ?_; intro W4 K4 B4))
  have l0 := K0.size
  have l2 := K2.size
  have l3 := B2.lt
  have B5 := (B2.keeps K3 (by simp)).keeps K4 (by simp; omega)
  have KK : Keeps w W4 [] := (((K0.trans K1 (by simp)).trans K2 (by simp; omega)).trans K3 (by simp)).trans K4 (by simp; omega)
  have hne : W0.heap.size ≠ W2.heap.size := by omega
  have hw2 : w.heap.size ≤ W2.heap.size := by omega
  clear K0 K1 K2 K3 K4 B1 B2 B3 s1 s3
  generalize W0.heap.size = g at *
  generalize W2.heap.size = h at *
  go_loopw [5] (fun i wr => ∃ k : Nat, k ≤ 16 ∧ i = .int .i64 k ∧ Keeps W4 wr [h] ∧ Blk wr h 26 (ints 16 (cnt q k))) (fun i _ => 16 - (intOf i).toNat)
  case atStart => exact ⟨0, by omega, rfl, Keeps.refl _ _, B4⟩
  case round =>
    obtain ⟨k, hk, rfl, hkr, Bh⟩ := hrel
    have Bg := B5.keeps hkr (by simp; omega)
    have cg := Bg.cell
    have ch := Bh.cell
    by_cases hlt : k < 16
    · have hs := sig_lt q k hq hlt
      have hc := cnt_le q k (sig q k)
      go_wp2_with (refine wpList_store_blk h (sig q k) 26 _ (.int .i64 ((cnt q k (sig q k) + 1 : Nat))) rfl rfl rfl rfl (by simp [Act.eval]) Bh (by rw [ints_size]; omega) rfl rfl (by kernel_rfl) ?_; intro W6 K6 B6; rw [ints_set] at B6; have B7 : Blk W6 h 26 (ints 16 (cnt q (k + 1))) := by rw [← ints_congr (fun p _ => cnt_succ q k p)]; exact B6)
      go_roundw
      case rel => exact ⟨k + 1, by omega, by go_num, hkr.trans K6 (fun _ h _ => h), B7⟩
      case measure => simp [intOf]; omega
    · obtain rfl : k = 16 := by omega
      have B8 : Blk wr h 26 (ints 16 fun _ => 1) := by
        rw [ints_congr (g := cnt q 16) (fun p hp => (cnt_one ⟨q, hq⟩ ⟨p, hp⟩).symm)]
        exact Bh
      have K8 : Keeps w wr [] := KK.trans hkr (by simp; omega)
      clear cg ch Bh hkr B4 B5 KK
      go_wp2
      go_loopw [6] (fun i ws => ∃ k : Nat, k ≤ 16 ∧ i = .int .i64 k ∧ ws = wr) (fun i _ => 16 - (intOf i).toNat)
      case atStart => exact ⟨0, by omega, rfl, rfl⟩
      case round =>
        obtain ⟨k, hk, rfl, hws⟩ := hrel
        subst hws
        have ch := B8.cell
        have lc := Later.cell Bg
        by_cases hlt : k < 16
        · go_wp2
          go_roundw
          case rel => exact ⟨k + 1, by omega, by go_num, trivial⟩
          case measure => simp [intOf]; omega
        · have i1 : IntKind.i64.wrap (r + 10) = r + 10 := IntWalk.i64_in _ (by omega)
          have i2 : IntKind.i64.wrap (r - 20) = r - 20 := IntWalk.i64_in _ (by omega)
          have i3 : IntKind.i64.wrap r = r := IntWalk.i64_in _ (by omega)
          have c1 := fun W => sigma_any (r + 10) W
          have c2 := fun W => sigma_any (r - 20) W
          simp only [E1.out, E2.out] at c1 c2
          have C1 := Lib.hid c1
          have C2 := Lib.hid c2
          clear c1 c2
          have n1 := eqN_self 16 (sig q)
          go_wp2
          refine wp_quiet_later (by kernel_rfl) (by kernel_rfl) ?_
          repeat (first
            | (refine wpQuiet_load 44 rfl rfl rfl rfl (Later.blk Bg) Try.underlying26 rfl (by kernel_rfl) ?_; simp only [Act.put, List.setIfInBounds_toArray, List.set_cons_zero, List.set_cons_succ])
            | (refine wpQuiet_load 51 rfl rfl rfl rfl (Later.blk Bg) Try.underlying26 rfl (by kernel_rfl) ?_; simp only [Act.put, List.setIfInBounds_toArray, List.set_cons_zero, List.set_cons_succ])
            | go_big_quiet_step (first | (go_at_call 14; first | (with_reducible exact later_of (C1.out _)) | (with_reducible exact later_of (C2.out _))) | (go_at_call 16; exact later_of (awake_any _))))
          refine wpQuiet_nil ?_
          intro _ hw
          obtain ⟨p, rfl⟩ := hw
          go_wp2
          go_ret
          exact ⟨rfl, K8.trans p.2 (by simp)⟩
theorem Orders.own : ownKnob Try.prog.godebug = none := by kernel_rfl
theorem Orders.laid : laidOutB Try.prog = true := by kernel_rfl
set_option maxRecDepth 100000 in
theorem orders_lifted (os : Os) (started : os.Started) (H : Type) (enc : TypeId × Value → H) :
    ReturnsInHanded {} Try.checked os 4 .any (Rows.mixbOrdersSpec.pre6 enc Try.prog Try.f4 Rows.mixbOrdersRow.domain false) (Rows.mixbOrdersSpec.post enc Try.prog Try.f4 false true false false) := by
  refine law_lifted (C := Try.checked) Orders.own started (by kernel_rfl) Try.func4 rfl (fun ds h => ?_) rfl Try.underlying4 Orders.laid ?_
    (ChangeSpec.witness6 (enc := enc) (C := Try.checked) false ⟨#[], #[.int .i16 0], []⟩ 8 (by kernel_rfl) (by kernel_rfl) (by kernel_rfl) (by kernel_rfl)) ?_
  · match ds, h with
    | [d], _ => exact ⟨rfl, rfl, rfl⟩
  · intro t ht
    have ht' : t ∈ ([30] : List TypeId) := ht
    simp only [List.mem_cons, List.not_mem_nil, or_false] at ht'
    subst ht'
    exact ⟨by kernel_rfl, of_decide_eq_true (by kernel_rfl)⟩
  · intro W base args ds ps hval hA hlt hfz hsz
    have hA' : DataW.TrodAll enc Try.prog W 0 (fun _ => true) true [30] args.toList ds ps := hA
    clear hA
    obtain ⟨v0, d0, hargs, rfl, h0⟩ := trodAll_one hA'
    obtain rfl : args = #[v0] := by cases args; simp_all
    obtain ⟨r, rfl, rfl, rfl, wr⟩ := open_int Try.underlying30 (hval 0 30 v0 rfl rfl) h0
    have hr : -32768 ≤ r ∧ r ≤ 32767 := by simpa [Lit.wf, IntKind.min, IntKind.max, IntKind.signed, IntKind.bits] using wr
    exact (orders_walk r hr W).mono fun e W' ⟨he, hk⟩ => ⟨he, hk.below⟩

theorem orders_holds : Rows.MixbOrdersSaid :=
  OpenClaim.holds_of_wide 4 Try.f4 rfl rfl rfl rfl rfl rfl rfl ⟨rfl, rfl, rfl, rfl, rfl⟩ rfl rfl rfl rfl rfl (by kernel_rfl) Try.func4 (by kernel_rfl)
    (of_decide_eq_true (by kernel_rfl)) (by unfold Func.isWrapper; rw [if_neg (of_decide_eq_false (by kernel_rfl))]; exact ⟨rfl, rfl⟩)
    (fun os started H enc _ => orders_lifted os started H enc)
end Go.Proofs.Ytainpnjddhabfaa

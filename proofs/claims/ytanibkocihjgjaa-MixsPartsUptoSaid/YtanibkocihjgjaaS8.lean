/-
  Open of mixs and of the reference: of what a state came.
-/
import Derived.Test.YtanibkocihjgjaaS7
namespace Go.Proofs.Ytanibkocihjgjaa
open Go.RowKit

theorem results_cell_4 {P : Program} {fn : Func} {p q1 q2 q3 q4 : Tmp} {ty : TypeId} (h : fn.results = #[.cell p ty, .tmp q1, .tmp q2, .tmp q3, .tmp q4]) (tmps : Array Value) (w : World) (g : Nat) (t : TypeId) (cs : Array Value) (d : TypeDesc)
    (hp : tmps.getD p undef = .pointer (some ⟨g, 0, none⟩)) (hg : Blk w g t cs)
    (hu : P.underlying ty = some d) (hd : (match d with | .struct _ | .array _ _ => true | _ => false) = true) (hi : (P.info? ty).map (·.size) = some cs.size) (v1 v2 v3 v4 : Value) (h1 : tmps.getD q1 undef = v1) (h2 : tmps.getD q2 undef = v2) (h3 : tmps.getD q3 undef = v3) (h4 : tmps.getD q4 undef = v4) :
    (results fn tmps).run P w = .ok (.tuple #[.agg cs, v1, v2, v3, v4]) w := by
  have hp' : tmps[p]?.getD undef = .pointer (some ⟨g, 0, none⟩) := by simpa using hp
  subst h1 h2 h3 h4
  simp [results, h, hp', asAddr, run_loadVar_row w g t ty cs (0, 0) d hg hu hd hi]

@[go_sem] theorem arr33 (w : World) (a : Option Addr) (c : Nat) : (Instr.arrayAt 33 (.slice a 8 c)).run Try.prog w = .ok (.pointer a) w := by
  simp [Instr.arrayAt, run_underlying Try.underlying33]
/-- The state ahead of k rounds, from the tenth back. -/
def unK (M V : Nat → BitVec 32) : Nat → Nat → BitVec 32
  | 0 => V
  | k + 1 => backV (unK M V k) M (row ((9 - k : Nat) : Int))
/-- What Open reads off the state ahead of all rounds. -/
def cntV (W : Nat → BitVec 32) : BitVec 64 := (W 12).setWidth 64 ^^^ (ivV 4).setWidth 64 ||| ((W 13).setWidth 64 ^^^ (ivV 5).setWidth 64) <<< 32
def lastV (W : Nat → BitVec 32) : Bool := W 14 == ~~~ ivV 6
def nodeV (W : Nat → BitVec 32) : Bool := W 15 == ~~~ ivV 7
def isV (W : Nat → BitVec 32) : Bool := eqW 16 (begV W (cntV W) (lastV W) (nodeV W)) W
/-- What Open answers. -/
def openA (W : Nat → BitVec 32) : Value :=
  if isV W then .tuple #[.agg (words 8 W), U64 (cntV W), .bool (lastV W), .bool (nodeV W), .bool true] else .tuple #[.agg (words 8 fun _ => 0), U64 0, .bool false, .bool false, .bool false]
theorem openA_yes {W : Nat → BitVec 32} (h : isV W = true) : openA W = .tuple #[.agg (words 8 W), U64 (cntV W), .bool (lastV W), .bool (nodeV W), .bool true] := by unfold openA; rw [if_pos h]
theorem openA_no {W : Nat → BitVec 32} (h : isV W = false) : openA W = .tuple #[.agg (words 8 fun _ => 0), U64 0, .bool false, .bool false, .bool false] := by unfold openA; rw [h]; rfl
/-- The reference asks the other way round. -/
def isR (W : Nat → BitVec 32) : Bool := eqW 16 (begV W (cntV W) (W 14 != ivV 6) (W 15 != ivV 7)) W
theorem cntV_add (W : Nat → BitVec 32) : ((W 12).setWidth 64 ^^^ (ivV 4).setWidth 64) + ((W 13).setWidth 64 ^^^ (ivV 5).setWidth 64) <<< 32 = cntV W := by
  unfold cntV
  simp only [← BitVec.setWidth_xor]
  generalize W 12 ^^^ ivV 4 = x
  generalize W 13 ^^^ ivV 5 = y
  apply BitVec.eq_of_toNat_eq
  have hx := x.isLt
  have hy := y.isLt
  rw [BitVec.toNat_add, BitVec.toNat_or, BitVec.toNat_shiftLeft, BitVec.toNat_setWidth, BitVec.toNat_setWidth, Nat.mod_eq_of_lt (show x.toNat < 2 ^ 64 by omega), Nat.mod_eq_of_lt (show y.toNat < 2 ^ 64 by omega), Nat.shiftLeft_eq, Nat.mod_eq_of_lt (show y.toNat * 2 ^ 32 < 2 ^ 64 by omega), Nat.mod_eq_of_lt (by omega)]
  rw [Nat.or_comm, ← Nat.shiftLeft_eq, ← Nat.shiftLeft_add_eq_or_of_lt hx, Nat.add_comm]
theorem not_self (x : BitVec 32) : x ≠ ~~~ x := by
  intro h
  have h1 := congrArg (fun v => v.getLsbD 0) h
  simp [BitVec.getLsbD_not] at h1
theorem isV_14 {W : Nat → BitVec 32} {n : BitVec 64} {l d : Bool} (h : eqW 16 (begV W n l d) W = true) : W 14 = (if l then ~~~ ivV 6 else ivV 6) ∧ W 15 = (if d then ~~~ ivV 7 else ivV 7) :=
  ⟨((eqW_iff _ _ _).1 h 14 (by omega)).symm, ((eqW_iff _ _ _).1 h 15 (by omega)).symm⟩
theorem flags_same {x iv : BitVec 32} {l : Bool} (h : x = (if l then ~~~ iv else iv)) : (x == ~~~ iv) = l ∧ (x != iv) = l := by
  cases l with
  | true =>
    obtain rfl : x = ~~~ iv := h
    exact ⟨by simp, by rw [bne_iff_ne]; exact fun e => not_self iv e.symm⟩
  | false =>
    obtain rfl : x = iv := h
    exact ⟨by rw [beq_eq_false_iff_ne]; exact not_self x, by simp⟩
theorem isR_eq (W : Nat → BitVec 32) : isR W = isV W ∧ (isV W = true → (W 14 != ivV 6) = lastV W ∧ (W 15 != ivV 7) = nodeV W) := by
  have key : ∀ l d, eqW 16 (begV W (cntV W) l d) W = true → lastV W = l ∧ nodeV W = d ∧ (W 14 != ivV 6) = l ∧ (W 15 != ivV 7) = d := fun l d h => by
    obtain ⟨h1, h2⟩ := isV_14 h
    exact ⟨(flags_same h1).1, (flags_same h2).1, (flags_same h1).2, (flags_same h2).2⟩
  constructor
  · rw [Bool.eq_iff_iff]
    constructor
    · intro h
      obtain ⟨a, b, _, _⟩ := key _ _ h
      unfold isV
      rw [a, b]
      exact h
    · intro h
      obtain ⟨_, _, a, b⟩ := key _ _ h
      unfold isR
      rw [a, b]
      exact h
  · intro h
    obtain ⟨_, _, a, b⟩ := key _ _ h
    exact ⟨a, b⟩

def pK (G : Nat → BitVec 32) (k : Nat) : Nat → BitVec 32 := fun i => if i < k then G i else 0
theorem pK_zero (G : Nat → BitVec 32) (i : Nat) : (0 : BitVec 32) = pK G 0 i := by unfold pK; rw [if_neg (by omega)]
theorem pK_step (G : Nat → BitVec 32) (k i : Nat) : upd (pK G k) k (G k) i = pK G (k + 1) i := by
  unfold upd pK
  by_cases h1 : i = k
  · rw [if_pos h1, if_pos (by omega), h1]
  · rw [if_neg h1]
    by_cases h2 : i < k
    · rw [if_pos h2, if_pos (by omega)]
    · rw [if_neg h2, if_neg (by omega)]
theorem pK_all (G : Nat → BitVec 32) (n i : Nat) (h : i < n) : pK G n i = G i := by unfold pK; rw [if_pos h]

set_option maxHeartbeats 2000000 in
theorem refopen_yes (V M : Nat → BitVec 32) (w : World) (his : isR (unK M V 10) = true) :
    Calls Try.prog 44 #[.agg (words 16 V), .agg (words 16 M)] w fun e w' => e = .returned (openA (unK M V 10)) ∧ Keeps w w' [] := by
  have O := Own.start w []
  have hi2 := isR_eq (unK M V 10)
  rw [openA_yes (by rw [← hi2.1]; exact his)]
  have hn : eqW 16 (begV (unK M V 10) (cntV (unK M V 10)) (unK M V 10 14 != ivV 6) (unK M V 10 15 != ivV 7)) (unK M V 10) = true := his
  have CB := Lib.hid fun w => refbegin_any (unK M V 10) (cntV (unK M V 10)) (unK M V 10 14 != ivV 6) (unK M V 10 15 != ivV 7) w
  rw [(hi2.2 (by rw [← hi2.1]; exact his)).1, (hi2.2 (by rw [← hi2.1]; exact his)).2] at hn CB
  have el := (hi2.2 (by rw [← hi2.1]; exact his)).1
  have en := (hi2.2 (by rw [← hi2.1]; exact his)).2
  have ec := cntV_add (unK M V 10)
  generalize begV (unK M V 10) (cntV (unK M V 10)) (lastV (unK M V 10)) (nodeV (unK M V 10)) = B at *
  generalize cntV (unK M V 10) = cn at *
  generalize lastV (unK M V 10) = la at *
  generalize nodeV (unK M V 10) = no at *
  generalize hI : unK M V = UK at *
  have F0 : V = UK 0 := by rw [← hI]; rfl
  have Fsx : ∀ k, k ≤ 9 → bSt (UK k) M ((9 - k : Nat) : Int) = UK (k + 1) := fun k hk => by
    rw [← hI]
    unfold bSt
    rw [rOk_good (by omega)]
    rfl
  have H0 := Lib.hid F0
  have HS := Lib.hid Fsx
  have HN := Lib.hid hn
  have EC := Lib.hid ec
  have EL := Lib.hid el
  have EN := Lib.hid en
  clear hI F0 Fsx his hi2 hn ec el en
  go_enter Try.func44, Try.ntmps44
  go_wp2_with (first
    | (refine own_box 2 (words 16 V) O rfl rfl rfl rfl ?_; clear O; intro W a2 O; simp only [Act.put, List.setIfInBounds_toArray, List.set_cons_zero, List.set_cons_succ])
    | (refine own_box 3 (words 16 M) O rfl rfl rfl rfl ?_; clear O; intro W a3 O; simp only [Act.put, List.setIfInBounds_toArray, List.set_cons_zero, List.set_cons_succ])
    | (refine own_alloc 4 (words 8 fun _ => 0) O rfl rfl rfl (fun _ => by kernel_rfl) ?_; clear O; intro W a4 O; simp only [Act.put, List.setIfInBounds_toArray, List.set_cons_zero, List.set_cons_succ]))
  go_loopw [9] (fun i wr => ∃ j : Nat, j ≤ 10 ∧ i = .int .i64 ((j : Int) - 1) ∧ Own w wr [] [(a4, 33, words 8 fun _ => 0), (a3, 23, words 16 M), (a2, 23, words 16 (UK (10 - j)))]) (fun i _ => (intOf i + 1).toNat)
  case atStart => exact ⟨10, by omega, rfl, by rw [H0.out] at O; exact O⟩
  case round =>
    obtain ⟨j, hj, rfl, O⟩ := hrel
    cases j with
    | zero =>
      have hz : ¬ ((0 : Int) ≤ ((0 : Nat) : Int) - 1) := by omega
      rw [Nat.sub_zero] at O
      generalize hW0 : UK 10 = W0 at *
      have HW0 := Lib.hid hW0
      clear hW0
      go_wp2_with (first
        | (go_at_call 24; refine (refiv_any _).mono ?_; rintro e W ⟨rfl, K⟩; replace O := O.keeps K; clear K)
        | (refine own_alloc 10 (words 8 fun _ => 0) O rfl rfl rfl (fun _ => by kernel_rfl) ?_; clear O; intro W a10 O; simp only [Act.put, List.setIfInBounds_toArray, List.set_cons_zero, List.set_cons_succ])
        | (refine own_store_row 0 (.tmp 10) (.tmp 27) O rfl rfl rfl rfl rfl rfl (by kernel_rfl) (by simp only [words_size]) (words_cell _ _) ?_; clear O; intro W O; simp only [List.set_cons_zero] at O)
        | (refine own_alloc 11 (words 8 fun _ => 0) O rfl rfl rfl (fun _ => by kernel_rfl) ?_; clear O; intro W a11 O; simp only [Act.put, List.setIfInBounds_toArray, List.set_cons_zero, List.set_cons_succ]))
      go_loopw [12] (fun i wr => ∃ k : Nat, k ≤ 8 ∧ i = .int .i64 k ∧ Own w wr [] [(a11, 33, words 8 (pK W0 k)), (a10, 33, words 8 ivV), (a4, 33, words 8 fun _ => 0), (a3, 23, words 16 M), (a2, 23, words 16 W0)]) (fun i _ => 8 - (intOf i).toNat)
      case atStart => exact ⟨0, by omega, rfl, O.put 0 rfl (words_congr fun i _ => pK_zero W0 i)⟩
      case round =>
        obtain ⟨k, hk, rfl, O⟩ := hrel
        by_cases hlt : k < 8
        · have g1 : ((k : Int)) < 8 := by omega
          have g2 : k < 16 := by omega
          have g3 : ((k : Int)) < 16 := by omega
          have c2 := (O.get 4 rfl).cell
          go_wp2_with (first
            | (refine own_store 0 k (U32 (W0 k)) (.tmp 36) (.tmp 35) O rfl rfl rfl rfl rfl rfl (by simp only [words_size]; omega) rfl rfl (by kernel_rfl) (words_set 8 _ k _) ?_; clear O; intro W O; simp only [List.set_cons_zero] at O))
          clear c2
          go_roundw
          case rel => exact ⟨k + 1, by omega, by go_num, O.put 0 rfl (words_congr fun i _ => pK_step W0 k i)⟩
          case measure => (simp [intOf] <;> omega)
        · obtain rfl : k = 8 := by omega
          replace O := O.put 0 rfl (words_congr fun i hi => pK_all W0 8 i hi)
          simp only [List.set_cons_zero] at O
          have c2 := (O.get 4 rfl).cell
          have c10 := (O.get 1 rfl).cell
          go_wp2
          clear c2 c10
          rw [EC.out, EL.out, EN.out]
          have n1 := HN.out
          refine wp_quiet_later (by kernel_rfl) (by kernel_rfl) ?_
          repeat (first
            | (refine wpQuiet_load 61 rfl rfl rfl rfl (Later.blk (O.get 0 rfl)) Try.underlying33 rfl (by kernel_rfl) ?_; simp only [Act.put, List.setIfInBounds_toArray, List.set_cons_zero, List.set_cons_succ])
            | (refine wpQuiet_load 66 rfl rfl rfl rfl (Later.blk (O.get 4 rfl)) Try.underlying23 rfl (by kernel_rfl) ?_; simp only [Act.put, List.setIfInBounds_toArray, List.set_cons_zero, List.set_cons_succ])
            | go_big_quiet_step ((go_at_call 38; exact later_of (CB.out _))))
          refine wpQuiet_nil ?_
          intro _ hw
          obtain ⟨p, rfl⟩ := hw
          replace O := O.keeps p.2
          generalize p.1 = W3 at O ⊢
          go_wp2_with (first
            | (refine own_load 69 0 O rfl rfl rfl rfl rfl Try.underlying33 rfl (by kernel_rfl) ?_; simp only [Act.put, List.setIfInBounds_toArray, List.set_cons_zero, List.set_cons_succ])
            | (refine own_store_row 2 (.tmp 4) (.tmp 69) O rfl rfl rfl rfl rfl rfl (by kernel_rfl) (by simp only [words_size]) (words_cell _ _) ?_; clear O; intro W O; simp only [List.set_cons_zero, List.set_cons_succ] at O))
          refine bodyPost_ret (v := .tuple #[.agg (words 8 W0), U64 cn, .bool la, .bool no, .bool true]) (results_cell_4 rfl _ _ a4 33 _ _ rfl (O.get 2 rfl) Try.underlying33 rfl (by kernel_rfl) _ _ _ _ rfl rfl rfl rfl) rfl ⟨?_, O.keep⟩
          rw [HW0.out]
    | succ k =>
      have e0 : ((k + 1 : Nat) : Int) - 1 = k := by omega
      rw [e0]
      clear e0
      have g2 : (0 : Int) ≤ k := by omega
      have e1 := HS.out (9 - k) (by omega)
      rw [show 9 - k + 1 = 10 - k from by omega, show 9 - (9 - k) = k from by omega] at e1
      have E1 := Lib.hid e1
      clear e1
      go_wp2_with (first
        | (refine own_load 21 2 O rfl rfl rfl rfl rfl Try.underlying23 rfl (by kernel_rfl) ?_; simp only [Act.put, List.setIfInBounds_toArray, List.set_cons_zero, List.set_cons_succ])
        | (refine own_load 22 1 O rfl rfl rfl rfl rfl Try.underlying23 rfl (by kernel_rfl) ?_; simp only [Act.put, List.setIfInBounds_toArray, List.set_cons_zero, List.set_cons_succ])
        | (go_at_call 36; refine (refunround_any _ _ _ _).mono ?_; rintro e W ⟨rfl, K⟩; replace O := O.keeps K; clear K)
        | (refine own_store_row 2 (.tmp 2) (.tmp 25) O rfl rfl rfl rfl rfl rfl (by kernel_rfl) (by simp only [words_size]) (words_cell _ _) ?_; clear O; intro W O; simp only [List.set_cons_zero, List.set_cons_succ] at O))
      rw [E1.out] at O
      go_roundw
      case rel => exact ⟨k, by omega, by go_num, O⟩
      case measure => (simp [intOf] <;> omega)

set_option maxHeartbeats 2000000 in
theorem refopen_no (V M : Nat → BitVec 32) (w : World) (his : isR (unK M V 10) = false) :
    Calls Try.prog 44 #[.agg (words 16 V), .agg (words 16 M)] w fun e w' => e = .returned (openA (unK M V 10)) ∧ Keeps w w' [] := by
  have O := Own.start w []
  have hi2 := isR_eq (unK M V 10)
  rw [openA_no (by rw [← hi2.1]; exact his)]
  have hn : eqW 16 (begV (unK M V 10) (cntV (unK M V 10)) (unK M V 10 14 != ivV 6) (unK M V 10 15 != ivV 7)) (unK M V 10) = false := his
  have CB := Lib.hid fun w => refbegin_any (unK M V 10) (cntV (unK M V 10)) (unK M V 10 14 != ivV 6) (unK M V 10 15 != ivV 7) w
  obtain ⟨lx, el⟩ : ∃ l, (unK M V 10 14 != ivV 6) = l := ⟨_, rfl⟩
  obtain ⟨nx, en⟩ : ∃ l, (unK M V 10 15 != ivV 7) = l := ⟨_, rfl⟩
  rw [el, en] at hn CB
  have ec := cntV_add (unK M V 10)
  generalize begV (unK M V 10) (cntV (unK M V 10)) lx nx = B at *
  generalize cntV (unK M V 10) = cn at *
  have la := lx
  generalize hI : unK M V = UK at *
  have F0 : V = UK 0 := by rw [← hI]; rfl
  have Fsx : ∀ k, k ≤ 9 → bSt (UK k) M ((9 - k : Nat) : Int) = UK (k + 1) := fun k hk => by
    rw [← hI]
    unfold bSt
    rw [rOk_good (by omega)]
    rfl
  have H0 := Lib.hid F0
  have HS := Lib.hid Fsx
  have HN := Lib.hid hn
  have EC := Lib.hid ec
  have EL := Lib.hid el
  have EN := Lib.hid en
  clear hI F0 Fsx his hi2 hn ec el en
  go_enter Try.func44, Try.ntmps44
  go_wp2_with (first
    | (refine own_box 2 (words 16 V) O rfl rfl rfl rfl ?_; clear O; intro W a2 O; simp only [Act.put, List.setIfInBounds_toArray, List.set_cons_zero, List.set_cons_succ])
    | (refine own_box 3 (words 16 M) O rfl rfl rfl rfl ?_; clear O; intro W a3 O; simp only [Act.put, List.setIfInBounds_toArray, List.set_cons_zero, List.set_cons_succ])
    | (refine own_alloc 4 (words 8 fun _ => 0) O rfl rfl rfl (fun _ => by kernel_rfl) ?_; clear O; intro W a4 O; simp only [Act.put, List.setIfInBounds_toArray, List.set_cons_zero, List.set_cons_succ]))
  go_loopw [9] (fun i wr => ∃ j : Nat, j ≤ 10 ∧ i = .int .i64 ((j : Int) - 1) ∧ Own w wr [] [(a4, 33, words 8 fun _ => 0), (a3, 23, words 16 M), (a2, 23, words 16 (UK (10 - j)))]) (fun i _ => (intOf i + 1).toNat)
  case atStart => exact ⟨10, by omega, rfl, by rw [H0.out] at O; exact O⟩
  case round =>
    obtain ⟨j, hj, rfl, O⟩ := hrel
    cases j with
    | zero =>
      have hz : ¬ ((0 : Int) ≤ ((0 : Nat) : Int) - 1) := by omega
      rw [Nat.sub_zero] at O
      generalize hW0 : UK 10 = W0 at *
      have HW0 := Lib.hid hW0
      clear hW0
      go_wp2_with (first
        | (go_at_call 24; refine (refiv_any _).mono ?_; rintro e W ⟨rfl, K⟩; replace O := O.keeps K; clear K)
        | (refine own_alloc 10 (words 8 fun _ => 0) O rfl rfl rfl (fun _ => by kernel_rfl) ?_; clear O; intro W a10 O; simp only [Act.put, List.setIfInBounds_toArray, List.set_cons_zero, List.set_cons_succ])
        | (refine own_store_row 0 (.tmp 10) (.tmp 27) O rfl rfl rfl rfl rfl rfl (by kernel_rfl) (by simp only [words_size]) (words_cell _ _) ?_; clear O; intro W O; simp only [List.set_cons_zero] at O)
        | (refine own_alloc 11 (words 8 fun _ => 0) O rfl rfl rfl (fun _ => by kernel_rfl) ?_; clear O; intro W a11 O; simp only [Act.put, List.setIfInBounds_toArray, List.set_cons_zero, List.set_cons_succ]))
      go_loopw [12] (fun i wr => ∃ k : Nat, k ≤ 8 ∧ i = .int .i64 k ∧ Own w wr [] [(a11, 33, words 8 (pK W0 k)), (a10, 33, words 8 ivV), (a4, 33, words 8 fun _ => 0), (a3, 23, words 16 M), (a2, 23, words 16 W0)]) (fun i _ => 8 - (intOf i).toNat)
      case atStart => exact ⟨0, by omega, rfl, O.put 0 rfl (words_congr fun i _ => pK_zero W0 i)⟩
      case round =>
        obtain ⟨k, hk, rfl, O⟩ := hrel
        by_cases hlt : k < 8
        · have g1 : ((k : Int)) < 8 := by omega
          have g2 : k < 16 := by omega
          have g3 : ((k : Int)) < 16 := by omega
          have c2 := (O.get 4 rfl).cell
          go_wp2_with (first
            | (refine own_store 0 k (U32 (W0 k)) (.tmp 36) (.tmp 35) O rfl rfl rfl rfl rfl rfl (by simp only [words_size]; omega) rfl rfl (by kernel_rfl) (words_set 8 _ k _) ?_; clear O; intro W O; simp only [List.set_cons_zero] at O))
          clear c2
          go_roundw
          case rel => exact ⟨k + 1, by omega, by go_num, O.put 0 rfl (words_congr fun i _ => pK_step W0 k i)⟩
          case measure => (simp [intOf] <;> omega)
        · obtain rfl : k = 8 := by omega
          replace O := O.put 0 rfl (words_congr fun i hi => pK_all W0 8 i hi)
          simp only [List.set_cons_zero] at O
          have c2 := (O.get 4 rfl).cell
          have c10 := (O.get 1 rfl).cell
          go_wp2
          clear c2 c10
          rw [EC.out, EL.out, EN.out]
          have n1 := HN.out
          refine wp_quiet_later (by kernel_rfl) (by kernel_rfl) ?_
          repeat (first
            | (refine wpQuiet_load 61 rfl rfl rfl rfl (Later.blk (O.get 0 rfl)) Try.underlying33 rfl (by kernel_rfl) ?_; simp only [Act.put, List.setIfInBounds_toArray, List.set_cons_zero, List.set_cons_succ])
            | (refine wpQuiet_load 66 rfl rfl rfl rfl (Later.blk (O.get 4 rfl)) Try.underlying23 rfl (by kernel_rfl) ?_; simp only [Act.put, List.setIfInBounds_toArray, List.set_cons_zero, List.set_cons_succ])
            | go_big_quiet_step ((go_at_call 38; exact later_of (CB.out _))))
          refine wpQuiet_nil ?_
          intro _ hw
          obtain ⟨p, rfl⟩ := hw
          replace O := O.keeps p.2
          generalize p.1 = W3 at O ⊢
          go_wp2_with (first
            | (refine wpList_const 68 (.agg (words 8 fun _ => 0)) rfl rfl (fun _ => by kernel_rfl) ?_; simp only [Act.put, List.setIfInBounds_toArray, List.set_cons_zero, List.set_cons_succ])
            | (refine own_store_row 2 (.tmp 4) (.tmp 68) O rfl rfl rfl rfl rfl rfl (by kernel_rfl) (by simp only [words_size]) (words_cell _ _) ?_; clear O; intro W O; simp only [List.set_cons_zero, List.set_cons_succ] at O))
          refine bodyPost_ret (v := .tuple #[.agg (words 8 fun _ => 0), U64 0, .bool false, .bool false, .bool false]) (results_cell_4 rfl _ _ a4 33 _ _ rfl (O.get 2 rfl) Try.underlying33 rfl (by kernel_rfl) _ _ _ _ rfl rfl rfl rfl) rfl ⟨?_, O.keep⟩
          rfl
    | succ k =>
      have e0 : ((k + 1 : Nat) : Int) - 1 = k := by omega
      rw [e0]
      clear e0
      have g2 : (0 : Int) ≤ k := by omega
      have e1 := HS.out (9 - k) (by omega)
      rw [show 9 - k + 1 = 10 - k from by omega, show 9 - (9 - k) = k from by omega] at e1
      have E1 := Lib.hid e1
      clear e1
      go_wp2_with (first
        | (refine own_load 21 2 O rfl rfl rfl rfl rfl Try.underlying23 rfl (by kernel_rfl) ?_; simp only [Act.put, List.setIfInBounds_toArray, List.set_cons_zero, List.set_cons_succ])
        | (refine own_load 22 1 O rfl rfl rfl rfl rfl Try.underlying23 rfl (by kernel_rfl) ?_; simp only [Act.put, List.setIfInBounds_toArray, List.set_cons_zero, List.set_cons_succ])
        | (go_at_call 36; refine (refunround_any _ _ _ _).mono ?_; rintro e W ⟨rfl, K⟩; replace O := O.keeps K; clear K)
        | (refine own_store_row 2 (.tmp 2) (.tmp 25) O rfl rfl rfl rfl rfl rfl (by kernel_rfl) (by simp only [words_size]) (words_cell _ _) ?_; clear O; intro W O; simp only [List.set_cons_zero, List.set_cons_succ] at O))
      rw [E1.out] at O
      go_roundw
      case rel => exact ⟨k, by omega, by go_num, O⟩
      case measure => (simp [intOf] <;> omega)

theorem refopen_any (V M : Nat → BitVec 32) (w : World) : Calls Try.prog 44 #[.agg (words 16 V), .agg (words 16 M)] w fun e w' => e = .returned (openA (unK M V 10)) ∧ Keeps w w' [] := by
  cases h : isR (unK M V 10) with
  | true => exact refopen_yes V M w h
  | false => exact refopen_no V M w h

set_option maxHeartbeats 2000000 in
theorem open_yes (V M : Nat → BitVec 32) (w : World) (his : isV (unK M V 10) = true) :
    Calls Try.prog 43 #[.agg (words 16 V), .agg (words 16 M)] w fun e w' => e = .returned (openA (unK M V 10)) ∧ Keeps w w' [] := by
  have O := Own.start w []
  rw [openA_yes his]
  have CB := Lib.hid fun w => begin_any (unK M V 10) (cntV (unK M V 10)) (lastV (unK M V 10)) (nodeV (unK M V 10)) w
  have hn : eqW 16 (begV (unK M V 10) (cntV (unK M V 10)) (lastV (unK M V 10)) (nodeV (unK M V 10))) (unK M V 10) = true := his
  have ec : cntV (unK M V 10) = (unK M V 10 12).setWidth 64 ^^^ (ivV 4).setWidth 64 ||| ((unK M V 10 13).setWidth 64 ^^^ (ivV 5).setWidth 64) <<< 32 := rfl
  have el : lastV (unK M V 10) = (unK M V 10 14 == ~~~ ivV 6) := rfl
  have en : nodeV (unK M V 10) = (unK M V 10 15 == ~~~ ivV 7) := rfl
  generalize begV (unK M V 10) (cntV (unK M V 10)) (lastV (unK M V 10)) (nodeV (unK M V 10)) = B at *
  generalize cntV (unK M V 10) = cn at *
  generalize lastV (unK M V 10) = la at *
  generalize nodeV (unK M V 10) = no at *
  generalize hI : unK M V = UK at *
  have F0 : V = UK 0 := by rw [← hI]; rfl
  have Fsx : ∀ k, UK (k + 1) = backV (UK k) M (row ((9 - k : Nat) : Int)) := fun k => by rw [← hI]; rfl
  have H0 := Lib.hid F0
  have HS := Lib.hid Fsx
  have HN := Lib.hid hn
  have EC := Lib.hid ec
  have EL := Lib.hid el
  have EN := Lib.hid en
  clear hI F0 Fsx his hn ec el en
  go_enter Try.func43, Try.ntmps43
  go_wp2_with (first
    | (refine own_box 2 (words 16 V) O rfl rfl rfl rfl ?_; clear O; intro W a2 O; simp only [Act.put, List.setIfInBounds_toArray, List.set_cons_zero, List.set_cons_succ])
    | (refine own_box 3 (words 16 M) O rfl rfl rfl rfl ?_; clear O; intro W a3 O; simp only [Act.put, List.setIfInBounds_toArray, List.set_cons_zero, List.set_cons_succ])
    | (refine own_alloc 4 (words 8 fun _ => 0) O rfl rfl rfl (fun _ => by kernel_rfl) ?_; clear O; intro W a4 O; simp only [Act.put, List.setIfInBounds_toArray, List.set_cons_zero, List.set_cons_succ]))
  go_loopw [9] (fun i wr => ∃ j : Nat, j ≤ 10 ∧ i = .int .i64 ((j : Int) - 1) ∧ Own w wr [] [(a4, 33, words 8 fun _ => 0), (a3, 23, words 16 M), (a2, 23, words 16 (UK (10 - j)))]) (fun i _ => (intOf i + 1).toNat)
  case atStart => exact ⟨10, by omega, rfl, by rw [H0.out] at O; exact O⟩
  case round =>
    obtain ⟨j, hj, rfl, O⟩ := hrel
    cases j with
    | zero =>
      have hz : ¬ ((0 : Int) ≤ ((0 : Nat) : Int) - 1) := by omega
      rw [Nat.sub_zero] at O
      generalize hW0 : UK 10 = W0 at *
      have HW0 := Lib.hid hW0
      clear hW0
      go_wp2_with (first
        | (go_at_call 23; refine (iv_any _).mono ?_; rintro e W ⟨rfl, K⟩; replace O := O.keeps K; clear K)
        | (refine own_alloc 10 (words 8 fun _ => 0) O rfl rfl rfl (fun _ => by kernel_rfl) ?_; clear O; intro W a10 O; simp only [Act.put, List.setIfInBounds_toArray, List.set_cons_zero, List.set_cons_succ])
        | (refine own_store_row 0 (.tmp 10) (.tmp 21) O rfl rfl rfl rfl rfl rfl (by kernel_rfl) (by simp only [words_size]) (words_cell _ _) ?_; clear O; intro W O; simp only [List.set_cons_zero] at O; have c2 := (O.get 3 rfl).cell; have c10 := (O.get 0 rfl).cell))
      rw [← EC.out]
      go_quiet (fail)
      clear c2 c10
      rw [← EL.out, ← EN.out]
      generalize hW : World.drewN W _ = W2
      replace O : Own w W2 [] [(a10, 33, words 8 ivV), (a4, 33, words 8 fun _ => 0), (a3, 23, words 16 M), (a2, 23, words 16 W0)] := by rw [← hW]; exact O.drewN _
      clear hW
      go_wp2_with (first
        | (refine own_load_part (part := words 8 W0) 50 3 O rfl rfl rfl rfl rfl Try.underlying33 rfl (by kernel_rfl) ?_ ?_; (exact fun j hj => by rw [words_size] at hj; rw [Nat.zero_add, words_get _ _ _ (by omega), words_get _ _ _ hj]); simp only [Act.put, List.setIfInBounds_toArray, List.set_cons_zero, List.set_cons_succ])
        | (refine own_alloc 14 (words 8 fun _ => 0) O rfl rfl rfl (fun _ => by kernel_rfl) ?_; clear O; intro W a14 O; simp only [Act.put, List.setIfInBounds_toArray, List.set_cons_zero, List.set_cons_succ])
        | (refine own_store_row 0 (.tmp 14) (.tmp 50) O rfl rfl rfl rfl rfl rfl (by kernel_rfl) (by simp only [words_size]) (words_cell _ _) ?_; clear O; intro W O; simp only [List.set_cons_zero] at O))
      have n1 := HN.out
      refine wp_quiet_later (by kernel_rfl) (by kernel_rfl) ?_
      repeat (first
        | (refine wpQuiet_load 51 rfl rfl rfl rfl (Later.blk (O.get 0 rfl)) Try.underlying33 rfl (by kernel_rfl) ?_; simp only [Act.put, List.setIfInBounds_toArray, List.set_cons_zero, List.set_cons_succ])
        | (refine wpQuiet_load 56 rfl rfl rfl rfl (Later.blk (O.get 4 rfl)) Try.underlying23 rfl (by kernel_rfl) ?_; simp only [Act.put, List.setIfInBounds_toArray, List.set_cons_zero, List.set_cons_succ])
        | go_big_quiet_step ((go_at_call 37; exact later_of (CB.out _))))
      refine wpQuiet_nil ?_
      intro _ hw
      obtain ⟨p, rfl⟩ := hw
      replace O := O.keeps p.2
      generalize p.1 = W3 at O ⊢
      go_wp2_with (first
        | (refine own_load 59 0 O rfl rfl rfl rfl rfl Try.underlying33 rfl (by kernel_rfl) ?_; simp only [Act.put, List.setIfInBounds_toArray, List.set_cons_zero, List.set_cons_succ])
        | (refine own_store_row 2 (.tmp 4) (.tmp 59) O rfl rfl rfl rfl rfl rfl (by kernel_rfl) (by simp only [words_size]) (words_cell _ _) ?_; clear O; intro W O; simp only [List.set_cons_zero, List.set_cons_succ] at O))
      refine bodyPost_ret (v := .tuple #[.agg (words 8 W0), U64 cn, .bool la, .bool no, .bool true]) (results_cell_4 rfl _ _ a4 33 _ _ rfl (O.get 2 rfl) Try.underlying33 rfl (by kernel_rfl) _ _ _ _ rfl rfl rfl rfl) rfl ⟨?_, O.keep⟩
      rw [HW0.out]
    | succ k =>
      have e0 : ((k + 1 : Nat) : Int) - 1 = k := by omega
      rw [e0]
      clear e0
      have g2 : (0 : Int) ≤ k := by omega
      go_wp2_with (go_at_call 58; refine (unround_in (UK (10 - (k + 1))) M a2 a3 k _ (O.get 2 rfl) (O.get 1 rfl) (O.apart (i := 1) (j := 2) rfl rfl (by decide))).mono ?_; rintro e W ⟨rfl, K, B1⟩; replace O := O.set 2 rfl K B1; clear K B1; simp only [List.set_cons_zero, List.set_cons_succ] at O)
      go_roundw
      case rel =>
        refine ⟨k, by omega, by go_num, ?_⟩
        have e1 := HS.out (10 - (k + 1))
        rw [show 10 - (k + 1) + 1 = 10 - k from by omega, show 9 - (10 - (k + 1)) = k from by omega] at e1
        rw [e1]
        exact O
      case measure => (simp [intOf] <;> omega)

set_option maxHeartbeats 2000000 in
theorem open_no (V M : Nat → BitVec 32) (w : World) (his : isV (unK M V 10) = false) :
    Calls Try.prog 43 #[.agg (words 16 V), .agg (words 16 M)] w fun e w' => e = .returned (openA (unK M V 10)) ∧ Keeps w w' [] := by
  have O := Own.start w []
  rw [openA_no his]
  have CB := Lib.hid fun w => begin_any (unK M V 10) (cntV (unK M V 10)) (lastV (unK M V 10)) (nodeV (unK M V 10)) w
  have hn : eqW 16 (begV (unK M V 10) (cntV (unK M V 10)) (lastV (unK M V 10)) (nodeV (unK M V 10))) (unK M V 10) = false := his
  have ec : cntV (unK M V 10) = (unK M V 10 12).setWidth 64 ^^^ (ivV 4).setWidth 64 ||| ((unK M V 10 13).setWidth 64 ^^^ (ivV 5).setWidth 64) <<< 32 := rfl
  have el : lastV (unK M V 10) = (unK M V 10 14 == ~~~ ivV 6) := rfl
  have en : nodeV (unK M V 10) = (unK M V 10 15 == ~~~ ivV 7) := rfl
  generalize begV (unK M V 10) (cntV (unK M V 10)) (lastV (unK M V 10)) (nodeV (unK M V 10)) = B at *
  generalize cntV (unK M V 10) = cn at *
  generalize lastV (unK M V 10) = la at *
  generalize nodeV (unK M V 10) = no at *
  generalize hI : unK M V = UK at *
  have F0 : V = UK 0 := by rw [← hI]; rfl
  have Fsx : ∀ k, UK (k + 1) = backV (UK k) M (row ((9 - k : Nat) : Int)) := fun k => by rw [← hI]; rfl
  have H0 := Lib.hid F0
  have HS := Lib.hid Fsx
  have HN := Lib.hid hn
  have EC := Lib.hid ec
  have EL := Lib.hid el
  have EN := Lib.hid en
  clear hI F0 Fsx his hn ec el en
  go_enter Try.func43, Try.ntmps43
  go_wp2_with (first
    | (refine own_box 2 (words 16 V) O rfl rfl rfl rfl ?_; clear O; intro W a2 O; simp only [Act.put, List.setIfInBounds_toArray, List.set_cons_zero, List.set_cons_succ])
    | (refine own_box 3 (words 16 M) O rfl rfl rfl rfl ?_; clear O; intro W a3 O; simp only [Act.put, List.setIfInBounds_toArray, List.set_cons_zero, List.set_cons_succ])
    | (refine own_alloc 4 (words 8 fun _ => 0) O rfl rfl rfl (fun _ => by kernel_rfl) ?_; clear O; intro W a4 O; simp only [Act.put, List.setIfInBounds_toArray, List.set_cons_zero, List.set_cons_succ]))
  go_loopw [9] (fun i wr => ∃ j : Nat, j ≤ 10 ∧ i = .int .i64 ((j : Int) - 1) ∧ Own w wr [] [(a4, 33, words 8 fun _ => 0), (a3, 23, words 16 M), (a2, 23, words 16 (UK (10 - j)))]) (fun i _ => (intOf i + 1).toNat)
  case atStart => exact ⟨10, by omega, rfl, by rw [H0.out] at O; exact O⟩
  case round =>
    obtain ⟨j, hj, rfl, O⟩ := hrel
    cases j with
    | zero =>
      have hz : ¬ ((0 : Int) ≤ ((0 : Nat) : Int) - 1) := by omega
      rw [Nat.sub_zero] at O
      generalize hW0 : UK 10 = W0 at *
      have HW0 := Lib.hid hW0
      clear hW0
      go_wp2_with (first
        | (go_at_call 23; refine (iv_any _).mono ?_; rintro e W ⟨rfl, K⟩; replace O := O.keeps K; clear K)
        | (refine own_alloc 10 (words 8 fun _ => 0) O rfl rfl rfl (fun _ => by kernel_rfl) ?_; clear O; intro W a10 O; simp only [Act.put, List.setIfInBounds_toArray, List.set_cons_zero, List.set_cons_succ])
        | (refine own_store_row 0 (.tmp 10) (.tmp 21) O rfl rfl rfl rfl rfl rfl (by kernel_rfl) (by simp only [words_size]) (words_cell _ _) ?_; clear O; intro W O; simp only [List.set_cons_zero] at O; have c2 := (O.get 3 rfl).cell; have c10 := (O.get 0 rfl).cell))
      rw [← EC.out]
      go_quiet (fail)
      clear c2 c10
      rw [← EL.out, ← EN.out]
      generalize hW : World.drewN W _ = W2
      replace O : Own w W2 [] [(a10, 33, words 8 ivV), (a4, 33, words 8 fun _ => 0), (a3, 23, words 16 M), (a2, 23, words 16 W0)] := by rw [← hW]; exact O.drewN _
      clear hW
      go_wp2_with (first
        | (refine own_load_part (part := words 8 W0) 50 3 O rfl rfl rfl rfl rfl Try.underlying33 rfl (by kernel_rfl) ?_ ?_; (exact fun j hj => by rw [words_size] at hj; rw [Nat.zero_add, words_get _ _ _ (by omega), words_get _ _ _ hj]); simp only [Act.put, List.setIfInBounds_toArray, List.set_cons_zero, List.set_cons_succ])
        | (refine own_alloc 14 (words 8 fun _ => 0) O rfl rfl rfl (fun _ => by kernel_rfl) ?_; clear O; intro W a14 O; simp only [Act.put, List.setIfInBounds_toArray, List.set_cons_zero, List.set_cons_succ])
        | (refine own_store_row 0 (.tmp 14) (.tmp 50) O rfl rfl rfl rfl rfl rfl (by kernel_rfl) (by simp only [words_size]) (words_cell _ _) ?_; clear O; intro W O; simp only [List.set_cons_zero] at O))
      have n1 := HN.out
      refine wp_quiet_later (by kernel_rfl) (by kernel_rfl) ?_
      repeat (first
        | (refine wpQuiet_load 51 rfl rfl rfl rfl (Later.blk (O.get 0 rfl)) Try.underlying33 rfl (by kernel_rfl) ?_; simp only [Act.put, List.setIfInBounds_toArray, List.set_cons_zero, List.set_cons_succ])
        | (refine wpQuiet_load 56 rfl rfl rfl rfl (Later.blk (O.get 4 rfl)) Try.underlying23 rfl (by kernel_rfl) ?_; simp only [Act.put, List.setIfInBounds_toArray, List.set_cons_zero, List.set_cons_succ])
        | go_big_quiet_step ((go_at_call 37; exact later_of (CB.out _))))
      refine wpQuiet_nil ?_
      intro _ hw
      obtain ⟨p, rfl⟩ := hw
      replace O := O.keeps p.2
      generalize p.1 = W3 at O ⊢
      go_wp2_with (first
        | (refine wpList_const 58 (.agg (words 8 fun _ => 0)) rfl rfl (fun _ => by kernel_rfl) ?_; simp only [Act.put, List.setIfInBounds_toArray, List.set_cons_zero, List.set_cons_succ])
        | (refine own_store_row 2 (.tmp 4) (.tmp 58) O rfl rfl rfl rfl rfl rfl (by kernel_rfl) (by simp only [words_size]) (words_cell _ _) ?_; clear O; intro W O; simp only [List.set_cons_zero, List.set_cons_succ] at O))
      refine bodyPost_ret (v := .tuple #[.agg (words 8 fun _ => 0), U64 0, .bool false, .bool false, .bool false]) (results_cell_4 rfl _ _ a4 33 _ _ rfl (O.get 2 rfl) Try.underlying33 rfl (by kernel_rfl) _ _ _ _ rfl rfl rfl rfl) rfl ⟨?_, O.keep⟩
      rfl
    | succ k =>
      have e0 : ((k + 1 : Nat) : Int) - 1 = k := by omega
      rw [e0]
      clear e0
      have g2 : (0 : Int) ≤ k := by omega
      go_wp2_with (go_at_call 58; refine (unround_in (UK (10 - (k + 1))) M a2 a3 k _ (O.get 2 rfl) (O.get 1 rfl) (O.apart (i := 1) (j := 2) rfl rfl (by decide))).mono ?_; rintro e W ⟨rfl, K, B1⟩; replace O := O.set 2 rfl K B1; clear K B1; simp only [List.set_cons_zero, List.set_cons_succ] at O)
      go_roundw
      case rel =>
        refine ⟨k, by omega, by go_num, ?_⟩
        have e1 := HS.out (10 - (k + 1))
        rw [show 10 - (k + 1) + 1 = 10 - k from by omega, show 9 - (10 - (k + 1)) = k from by omega] at e1
        rw [e1]
        exact O
      case measure => (simp [intOf] <;> omega)

theorem open_any (V M : Nat → BitVec 32) (w : World) : Calls Try.prog 43 #[.agg (words 16 V), .agg (words 16 M)] w fun e w' => e = .returned (openA (unK M V 10)) ∧ Keeps w w' [] := by
  cases h : isV (unK M V 10) with
  | true => exact open_yes V M w h
  | false => exact open_no V M w h
end Go.Proofs.Ytanibkocihjgjaa

/-
  Lists of events: what may come next; shared, inside, meant.
-/
import Derived.Test.YtakmcpadkanggaaT7
import Derived.Test.YtakmcpadkanggaaTm
namespace Go.Proofs.Ytakmcpadkanggaa
open Go.RowKit Go.Deep

/-- An event. -/
structure Ev where
  who : Int
  op : Int
  a : Int
  v : Int
  sh : Bool
def evC (e : Ev) : Array Value := #[.int .i64 e.who, .int .i64 e.op, .int .i64 e.a, .int .i64 e.v, .bool e.sh]
theorem evC_cell (e : Ev) : ∀ v ∈ (evC e).toList, v.oneCell' = true := by
  intro v hv
  simp only [evC, List.mem_cons, List.not_mem_nil, or_false] at hv
  rcases hv with rfl | rfl | rfl | rfl | rfl <;> rfl
/-- What a list of events has left behind. -/
structure St where
  r : Int
  held : Int → Bool
  sent : Int → Int
  took : Int → Int
  shut : Int → Bool
/-- How many there are of what an operation's A says; -1: it says none. -/
def cnt (S : Sys) (op : Int) : Int :=
  if op = 5 ∨ op = 6 ∨ op = 7 then S.nr else if op = 8 ∨ op = 9 then S.lk else if op = 10 ∨ op = 11 then S.gr else if op = 12 ∨ op = 13 then S.ce else if op = 14 then S.np else -1
def headE (S : Sys) (st : St) (e : Ev) : Bool :=
  decide (0 ≤ e.who) && (decide (e.who < st.r) && (decide (1 ≤ e.op) && (decide (e.op ≤ 16) && (decide (cnt S e.op < 0) || (decide (0 ≤ e.a) && decide (e.a < cnt S e.op))))))
def bodyE (st : St) (e : Ev) : Bool :=
  if e.op = 14 then decide (e.v = 0) || (decide (e.v = st.r) && decide (e.v < 512))
  else if e.op = 6 then (if e.sh then st.shut e.a else decide (st.took e.a + 1 ≤ st.sent e.a))
  else if e.op = 8 then !st.held e.a else true
/-- May the event come next? -/
def okE (S : Sys) (st : St) (e : Ev) : Bool := headE S st e && bodyE st e
def nextE (st : St) (e : Ev) : St :=
  if e.op = 14 then (if e.v = 0 then st else { st with r := st.r + 1 })
  else if e.op = 5 then { st with sent := updI st.sent e.a (st.sent e.a + 1) }
  else if e.op = 6 then (if e.sh then st else { st with took := updI st.took e.a (st.took e.a + 1) })
  else if e.op = 7 then { st with shut := updI st.shut e.a true }
  else if e.op = 8 then { st with held := updI st.held e.a true }
  else if e.op = 9 then { st with held := updI st.held e.a false }
  else st
def st0 : St := ⟨1, fun _ => false, fun _ => 0, fun _ => 0, fun _ => false⟩
def stN (E : Nat → Ev) : Nat → St
  | 0 => st0
  | k + 1 => nextE (stN E k) (E k)
theorem nextE_r (st : St) (e : Ev) : st.r ≤ (nextE st e).r ∧ (nextE st e).r ≤ st.r + 1 := by
  unfold nextE; split
  · split <;> simp <;> omega
  · repeat' split
    all_goals simp <;> omega
theorem nextE_le (st : St) (e : Ev) (j : Int) : st.sent j ≤ (nextE st e).sent j ∧ (nextE st e).sent j ≤ st.sent j + 1 ∧ st.took j ≤ (nextE st e).took j ∧ (nextE st e).took j ≤ st.took j + 1 := by
  unfold nextE
  have h : ∀ (f : Int → Int) (i : Int), f j ≤ updI f i (f i + 1) j ∧ updI f i (f i + 1) j ≤ f j + 1 := fun f i => by
    by_cases hj : j = i
    · subst hj; rw [updI_same]; omega
    · rw [updI_other _ _ _ _ hj]; omega
  repeat' split
  all_goals (first | (have := h st.sent e.a; simp; omega) | (have := h st.took e.a; simp; omega) | (simp; omega))
theorem stN_le (E : Nat → Ev) (k : Nat) : 1 ≤ (stN E k).r ∧ (stN E k).r ≤ k + 1 ∧ ∀ j, 0 ≤ (stN E k).sent j ∧ (stN E k).sent j ≤ k ∧ 0 ≤ (stN E k).took j ∧ (stN E k).took j ≤ k := by
  induction k with
  | zero => exact ⟨by simp [stN, st0], by simp [stN, st0], fun j => by simp [stN, st0]⟩
  | succ k ih =>
    obtain ⟨h1, h2, h3⟩ := ih
    have h4 := nextE_r (stN E k) (E k)
    refine ⟨by simp only [stN]; omega, by simp only [stN]; omega, fun j => ?_⟩
    have h5 := nextE_le (stN E k) (E k) j
    have h6 := h3 j
    simp only [stN]
    omega

/-- Events in memory. -/
def EvsAt (W : World) (A : Option Addr) (n : Nat) (E : Nat → Ev) : Prop := 0 < n → ∃ ad, A = some ad ∧ ad.block < W.heap.size ∧ ∀ i j, i < n → j < 5 → W.cell? (ad.add (i * 5 + j)) = (evC (E i))[j]?
theorem EvsAt.kept {w u : World} {A : Option Addr} {n : Nat} {E : Nat → Ev} (h : EvsAt w A n E) (k : Keeps w u []) : EvsAt u A n E := fun hn => by
  obtain ⟨ad, e, hb, hc⟩ := h hn
  exact ⟨ad, e, by have := k.size; omega, fun i j hi hj => by rw [k.cellAt (by rw [add_block]; exact hb) (by simp)]; exact hc i j hi hj⟩
theorem EvsAt.row {w u : World} {A : Option Addr} {n : Nat} {E : Nat → Ev} (h : EvsAt w A n E) {i : Nat} (hi : i < n) : ∃ ad, A = some ad ∧ ∀ S u, Keeps w u S → ad.block ∉ S → ∀ j, j < (evC (E i)).size → u.cell? ((ad.add (i * 5)).add j) = (evC (E i))[j]? := by
  obtain ⟨ad, e, hb, hc⟩ := h (by omega)
  refine ⟨ad, e, fun S u k hn j hj => ?_⟩
  rw [Addr.add_add, k.cellAt (by rw [add_block]; exact hb) (by rw [add_block]; exact hn)]
  exact hc i j hi hj

theorem inside_any (a n : Int) (w : World) : Calls Try.prog 65 #[.int .i64 a, .int .i64 n] w fun e w' => e = .returned (.bool (decide (0 ≤ a) && decide (a < n))) ∧ w = w' := by
  by_cases h0 : 0 ≤ a
  · have H := Lib.hid (show (decide (0 ≤ a) && decide (a < n)) = decide (a < n) by simp [h0])
    go_enter Try.func65, Try.ntmps65
    go_wp2
    go_ret
    exact ⟨by rw [H.out]; rfl, rfl⟩
  · have H := Lib.hid (show (decide (0 ≤ a) && decide (a < n)) = false by simp [h0])
    go_enter Try.func65, Try.ntmps65
    go_wp2
    go_ret
    exact ⟨by rw [H.out]; rfl, rfl⟩
section
variable (S : Sys) (A : Option Addr) (c : Nat) (R : Option Addr) (d : Nat) (w : World)

set_option maxRecDepth 100000 in
theorem shared_5 : Calls Try.prog 109 #[.agg (sysV S A c R d), .int .i64 5] w fun e w' => e = .returned (.int .i64 (cnt S 5)) ∧ Keeps w w' [] := by
  have O := Own.start w []
  unfold sysV
  go_enter Try.func109, Try.ntmps109
  go_wp2_with (first
    | go_big_skip
    | (refine own_box 2 _ O rfl rfl rfl rfl ?_; clear O; intro W a2 O; simp only [Act.put, List.setIfInBounds_toArray, List.set_cons_zero, List.set_cons_succ]; have c2 := (O.get 0 rfl).cell))
  go_ret
  exact ⟨rfl, O.keep⟩

set_option maxRecDepth 100000 in
theorem shared_6 : Calls Try.prog 109 #[.agg (sysV S A c R d), .int .i64 6] w fun e w' => e = .returned (.int .i64 (cnt S 6)) ∧ Keeps w w' [] := by
  have O := Own.start w []
  unfold sysV
  go_enter Try.func109, Try.ntmps109
  go_wp2_with (first
    | go_big_skip
    | (refine own_box 2 _ O rfl rfl rfl rfl ?_; clear O; intro W a2 O; simp only [Act.put, List.setIfInBounds_toArray, List.set_cons_zero, List.set_cons_succ]; have c2 := (O.get 0 rfl).cell))
  go_ret
  exact ⟨rfl, O.keep⟩

set_option maxRecDepth 100000 in
theorem shared_7 : Calls Try.prog 109 #[.agg (sysV S A c R d), .int .i64 7] w fun e w' => e = .returned (.int .i64 (cnt S 7)) ∧ Keeps w w' [] := by
  have O := Own.start w []
  unfold sysV
  go_enter Try.func109, Try.ntmps109
  go_wp2_with (first
    | go_big_skip
    | (refine own_box 2 _ O rfl rfl rfl rfl ?_; clear O; intro W a2 O; simp only [Act.put, List.setIfInBounds_toArray, List.set_cons_zero, List.set_cons_succ]; have c2 := (O.get 0 rfl).cell))
  go_ret
  exact ⟨rfl, O.keep⟩

set_option maxRecDepth 100000 in
theorem shared_8 : Calls Try.prog 109 #[.agg (sysV S A c R d), .int .i64 8] w fun e w' => e = .returned (.int .i64 (cnt S 8)) ∧ Keeps w w' [] := by
  have O := Own.start w []
  unfold sysV
  go_enter Try.func109, Try.ntmps109
  go_wp2_with (first
    | go_big_skip
    | (refine own_box 2 _ O rfl rfl rfl rfl ?_; clear O; intro W a2 O; simp only [Act.put, List.setIfInBounds_toArray, List.set_cons_zero, List.set_cons_succ]; have c2 := (O.get 0 rfl).cell))
  go_ret
  exact ⟨rfl, O.keep⟩

set_option maxRecDepth 100000 in
theorem shared_9 : Calls Try.prog 109 #[.agg (sysV S A c R d), .int .i64 9] w fun e w' => e = .returned (.int .i64 (cnt S 9)) ∧ Keeps w w' [] := by
  have O := Own.start w []
  unfold sysV
  go_enter Try.func109, Try.ntmps109
  go_wp2_with (first
    | go_big_skip
    | (refine own_box 2 _ O rfl rfl rfl rfl ?_; clear O; intro W a2 O; simp only [Act.put, List.setIfInBounds_toArray, List.set_cons_zero, List.set_cons_succ]; have c2 := (O.get 0 rfl).cell))
  go_ret
  exact ⟨rfl, O.keep⟩

set_option maxRecDepth 100000 in
theorem shared_10 : Calls Try.prog 109 #[.agg (sysV S A c R d), .int .i64 10] w fun e w' => e = .returned (.int .i64 (cnt S 10)) ∧ Keeps w w' [] := by
  have O := Own.start w []
  unfold sysV
  go_enter Try.func109, Try.ntmps109
  go_wp2_with (first
    | go_big_skip
    | (refine own_box 2 _ O rfl rfl rfl rfl ?_; clear O; intro W a2 O; simp only [Act.put, List.setIfInBounds_toArray, List.set_cons_zero, List.set_cons_succ]; have c2 := (O.get 0 rfl).cell))
  go_ret
  exact ⟨rfl, O.keep⟩

set_option maxRecDepth 100000 in
theorem shared_11 : Calls Try.prog 109 #[.agg (sysV S A c R d), .int .i64 11] w fun e w' => e = .returned (.int .i64 (cnt S 11)) ∧ Keeps w w' [] := by
  have O := Own.start w []
  unfold sysV
  go_enter Try.func109, Try.ntmps109
  go_wp2_with (first
    | go_big_skip
    | (refine own_box 2 _ O rfl rfl rfl rfl ?_; clear O; intro W a2 O; simp only [Act.put, List.setIfInBounds_toArray, List.set_cons_zero, List.set_cons_succ]; have c2 := (O.get 0 rfl).cell))
  go_ret
  exact ⟨rfl, O.keep⟩

set_option maxRecDepth 100000 in
theorem shared_12 : Calls Try.prog 109 #[.agg (sysV S A c R d), .int .i64 12] w fun e w' => e = .returned (.int .i64 (cnt S 12)) ∧ Keeps w w' [] := by
  have O := Own.start w []
  unfold sysV
  go_enter Try.func109, Try.ntmps109
  go_wp2_with (first
    | go_big_skip
    | (refine own_box 2 _ O rfl rfl rfl rfl ?_; clear O; intro W a2 O; simp only [Act.put, List.setIfInBounds_toArray, List.set_cons_zero, List.set_cons_succ]; have c2 := (O.get 0 rfl).cell))
  go_ret
  exact ⟨rfl, O.keep⟩

set_option maxRecDepth 100000 in
theorem shared_13 : Calls Try.prog 109 #[.agg (sysV S A c R d), .int .i64 13] w fun e w' => e = .returned (.int .i64 (cnt S 13)) ∧ Keeps w w' [] := by
  have O := Own.start w []
  unfold sysV
  go_enter Try.func109, Try.ntmps109
  go_wp2_with (first
    | go_big_skip
    | (refine own_box 2 _ O rfl rfl rfl rfl ?_; clear O; intro W a2 O; simp only [Act.put, List.setIfInBounds_toArray, List.set_cons_zero, List.set_cons_succ]; have c2 := (O.get 0 rfl).cell))
  go_ret
  exact ⟨rfl, O.keep⟩

set_option maxRecDepth 100000 in
theorem shared_14 : Calls Try.prog 109 #[.agg (sysV S A c R d), .int .i64 14] w fun e w' => e = .returned (.int .i64 (cnt S 14)) ∧ Keeps w w' [] := by
  have O := Own.start w []
  unfold sysV
  go_enter Try.func109, Try.ntmps109
  go_wp2_with (first
    | go_big_skip
    | (refine own_box 2 _ O rfl rfl rfl rfl ?_; clear O; intro W a2 O; simp only [Act.put, List.setIfInBounds_toArray, List.set_cons_zero, List.set_cons_succ]; have c2 := (O.get 0 rfl).cell))
  go_ret
  exact ⟨rfl, O.keep⟩

set_option maxRecDepth 100000 in
theorem shared_other (op : Int) (h5 : ¬ op = 5) (h6 : ¬ op = 6) (h7 : ¬ op = 7) (h8 : ¬ op = 8) (h9 : ¬ op = 9) (h10 : ¬ op = 10) (h11 : ¬ op = 11) (h12 : ¬ op = 12) (h13 : ¬ op = 13) (h14 : ¬ op = 14) : Calls Try.prog 109 #[.agg (sysV S A c R d), .int .i64 op] w fun e w' => e = .returned (.int .i64 (cnt S op)) ∧ Keeps w w' [] := by
  have O := Own.start w []
  have H := Lib.hid (show cnt S op = -1 by simp [cnt, h5, h6, h7, h8, h9, h10, h11, h12, h13, h14])
  unfold sysV
  go_enter Try.func109, Try.ntmps109
  go_wp2_with (first
    | go_big_skip
    | (refine own_box 2 _ O rfl rfl rfl rfl ?_; clear O; intro W a2 O; simp only [Act.put, List.setIfInBounds_toArray, List.set_cons_zero, List.set_cons_succ]; have c2 := (O.get 0 rfl).cell))
  go_ret
  exact ⟨by rw [H.out]; rfl, O.keep⟩
theorem sharedT_any (op : Int) : Calls Try.prog 109 #[.agg (sysV S A c R d), .int .i64 op] w fun e w' => e = .returned (.int .i64 (cnt S op)) ∧ Keeps w w' [] := by
  by_cases h5 : op = 5
  · subst h5; exact shared_5 S A c R d w
  by_cases h6 : op = 6
  · subst h6; exact shared_6 S A c R d w
  by_cases h7 : op = 7
  · subst h7; exact shared_7 S A c R d w
  by_cases h8 : op = 8
  · subst h8; exact shared_8 S A c R d w
  by_cases h9 : op = 9
  · subst h9; exact shared_9 S A c R d w
  by_cases h10 : op = 10
  · subst h10; exact shared_10 S A c R d w
  by_cases h11 : op = 11
  · subst h11; exact shared_11 S A c R d w
  by_cases h12 : op = 12
  · subst h12; exact shared_12 S A c R d w
  by_cases h13 : op = 13
  · subst h13; exact shared_13 S A c R d w
  by_cases h14 : op = 14
  · subst h14; exact shared_14 S A c R d w
  exact shared_other S A c R d w op h5 h6 h7 h8 h9 h10 h11 h12 h13 h14

def meantB (S : Sys) (e : Ev) : Bool := decide (1 ≤ e.op) && (decide (e.op ≤ 16) && (decide (cnt S e.op < 0) || (decide (0 ≤ e.a) && decide (e.a < cnt S e.op))))
variable (hh : 0 ≤ S.gr ∧ 0 ≤ S.lk ∧ 0 ≤ S.ce)
include hh

set_option maxRecDepth 100000 in
theorem meant_5 (e : Ev) (he : e.op = 5) : Calls Try.prog 93 #[.agg (sysV S A c R d), .agg (evC e)] w fun x w' => x = .returned (.bool (meantB S e)) ∧ Keeps w w' [] := by
  have O := Own.start w []
  have _u := hh
  clear _u
  have H := Lib.hid (show meantB S e = (decide (0 ≤ e.a) && decide (e.a < cnt S 5)) by simp [meantB, he, cnt]; omega)
  unfold sysV evC
  rw [he]
  clear he
  go_enter Try.func93, Try.ntmps93
  go_wp2_with (first
    | go_big_skip
    | (refine own_box 2 _ O rfl rfl rfl rfl ?_; clear O; intro W a2 O; simp only [Act.put, List.setIfInBounds_toArray, List.set_cons_zero, List.set_cons_succ])
    | (refine own_box 3 _ O rfl rfl rfl rfl ?_; clear O; intro W a3 O; simp only [Act.put, List.setIfInBounds_toArray, List.set_cons_zero, List.set_cons_succ]; have c3 := (O.get 0 rfl).cell; have c2 := (O.get 1 rfl).cell)
    | (go_at_call 65; refine (inside_any _ _ _).mono ?_; rintro e W ⟨rfl, rfl⟩))
  go_ret
  exact ⟨by rw [H.out]; rfl, O.keep⟩

set_option maxRecDepth 100000 in
theorem meant_6 (e : Ev) (he : e.op = 6) : Calls Try.prog 93 #[.agg (sysV S A c R d), .agg (evC e)] w fun x w' => x = .returned (.bool (meantB S e)) ∧ Keeps w w' [] := by
  have O := Own.start w []
  have _u := hh
  clear _u
  have H := Lib.hid (show meantB S e = (decide (0 ≤ e.a) && decide (e.a < cnt S 6)) by simp [meantB, he, cnt]; omega)
  unfold sysV evC
  rw [he]
  clear he
  go_enter Try.func93, Try.ntmps93
  go_wp2_with (first
    | go_big_skip
    | (refine own_box 2 _ O rfl rfl rfl rfl ?_; clear O; intro W a2 O; simp only [Act.put, List.setIfInBounds_toArray, List.set_cons_zero, List.set_cons_succ])
    | (refine own_box 3 _ O rfl rfl rfl rfl ?_; clear O; intro W a3 O; simp only [Act.put, List.setIfInBounds_toArray, List.set_cons_zero, List.set_cons_succ]; have c3 := (O.get 0 rfl).cell; have c2 := (O.get 1 rfl).cell)
    | (go_at_call 65; refine (inside_any _ _ _).mono ?_; rintro e W ⟨rfl, rfl⟩))
  go_ret
  exact ⟨by rw [H.out]; rfl, O.keep⟩

set_option maxRecDepth 100000 in
theorem meant_7 (e : Ev) (he : e.op = 7) : Calls Try.prog 93 #[.agg (sysV S A c R d), .agg (evC e)] w fun x w' => x = .returned (.bool (meantB S e)) ∧ Keeps w w' [] := by
  have O := Own.start w []
  have _u := hh
  clear _u
  have H := Lib.hid (show meantB S e = (decide (0 ≤ e.a) && decide (e.a < cnt S 7)) by simp [meantB, he, cnt]; omega)
  unfold sysV evC
  rw [he]
  clear he
  go_enter Try.func93, Try.ntmps93
  go_wp2_with (first
    | go_big_skip
    | (refine own_box 2 _ O rfl rfl rfl rfl ?_; clear O; intro W a2 O; simp only [Act.put, List.setIfInBounds_toArray, List.set_cons_zero, List.set_cons_succ])
    | (refine own_box 3 _ O rfl rfl rfl rfl ?_; clear O; intro W a3 O; simp only [Act.put, List.setIfInBounds_toArray, List.set_cons_zero, List.set_cons_succ]; have c3 := (O.get 0 rfl).cell; have c2 := (O.get 1 rfl).cell)
    | (go_at_call 65; refine (inside_any _ _ _).mono ?_; rintro e W ⟨rfl, rfl⟩))
  go_ret
  exact ⟨by rw [H.out]; rfl, O.keep⟩

set_option maxRecDepth 100000 in
theorem meant_8 (e : Ev) (he : e.op = 8) : Calls Try.prog 93 #[.agg (sysV S A c R d), .agg (evC e)] w fun x w' => x = .returned (.bool (meantB S e)) ∧ Keeps w w' [] := by
  have O := Own.start w []
  have _u := hh
  clear _u
  have H := Lib.hid (show meantB S e = (decide (0 ≤ e.a) && decide (e.a < cnt S 8)) by simp [meantB, he, cnt]; omega)
  unfold sysV evC
  rw [he]
  clear he
  go_enter Try.func93, Try.ntmps93
  go_wp2_with (first
    | go_big_skip
    | (refine own_box 2 _ O rfl rfl rfl rfl ?_; clear O; intro W a2 O; simp only [Act.put, List.setIfInBounds_toArray, List.set_cons_zero, List.set_cons_succ])
    | (refine own_box 3 _ O rfl rfl rfl rfl ?_; clear O; intro W a3 O; simp only [Act.put, List.setIfInBounds_toArray, List.set_cons_zero, List.set_cons_succ]; have c3 := (O.get 0 rfl).cell; have c2 := (O.get 1 rfl).cell)
    | (go_at_call 65; refine (inside_any _ _ _).mono ?_; rintro e W ⟨rfl, rfl⟩))
  go_ret
  exact ⟨by rw [H.out]; rfl, O.keep⟩

set_option maxRecDepth 100000 in
theorem meant_9 (e : Ev) (he : e.op = 9) : Calls Try.prog 93 #[.agg (sysV S A c R d), .agg (evC e)] w fun x w' => x = .returned (.bool (meantB S e)) ∧ Keeps w w' [] := by
  have O := Own.start w []
  have _u := hh
  clear _u
  have H := Lib.hid (show meantB S e = (decide (0 ≤ e.a) && decide (e.a < cnt S 9)) by simp [meantB, he, cnt]; omega)
  unfold sysV evC
  rw [he]
  clear he
  go_enter Try.func93, Try.ntmps93
  go_wp2_with (first
    | go_big_skip
    | (refine own_box 2 _ O rfl rfl rfl rfl ?_; clear O; intro W a2 O; simp only [Act.put, List.setIfInBounds_toArray, List.set_cons_zero, List.set_cons_succ])
    | (refine own_box 3 _ O rfl rfl rfl rfl ?_; clear O; intro W a3 O; simp only [Act.put, List.setIfInBounds_toArray, List.set_cons_zero, List.set_cons_succ]; have c3 := (O.get 0 rfl).cell; have c2 := (O.get 1 rfl).cell)
    | (go_at_call 65; refine (inside_any _ _ _).mono ?_; rintro e W ⟨rfl, rfl⟩))
  go_ret
  exact ⟨by rw [H.out]; rfl, O.keep⟩

set_option maxRecDepth 100000 in
theorem meant_10 (e : Ev) (he : e.op = 10) : Calls Try.prog 93 #[.agg (sysV S A c R d), .agg (evC e)] w fun x w' => x = .returned (.bool (meantB S e)) ∧ Keeps w w' [] := by
  have O := Own.start w []
  have _u := hh
  clear _u
  have H := Lib.hid (show meantB S e = (decide (0 ≤ e.a) && decide (e.a < cnt S 10)) by simp [meantB, he, cnt]; omega)
  unfold sysV evC
  rw [he]
  clear he
  go_enter Try.func93, Try.ntmps93
  go_wp2_with (first
    | go_big_skip
    | (refine own_box 2 _ O rfl rfl rfl rfl ?_; clear O; intro W a2 O; simp only [Act.put, List.setIfInBounds_toArray, List.set_cons_zero, List.set_cons_succ])
    | (refine own_box 3 _ O rfl rfl rfl rfl ?_; clear O; intro W a3 O; simp only [Act.put, List.setIfInBounds_toArray, List.set_cons_zero, List.set_cons_succ]; have c3 := (O.get 0 rfl).cell; have c2 := (O.get 1 rfl).cell)
    | (go_at_call 65; refine (inside_any _ _ _).mono ?_; rintro e W ⟨rfl, rfl⟩))
  go_ret
  exact ⟨by rw [H.out]; rfl, O.keep⟩

set_option maxRecDepth 100000 in
theorem meant_11 (e : Ev) (he : e.op = 11) : Calls Try.prog 93 #[.agg (sysV S A c R d), .agg (evC e)] w fun x w' => x = .returned (.bool (meantB S e)) ∧ Keeps w w' [] := by
  have O := Own.start w []
  have _u := hh
  clear _u
  have H := Lib.hid (show meantB S e = (decide (0 ≤ e.a) && decide (e.a < cnt S 11)) by simp [meantB, he, cnt]; omega)
  unfold sysV evC
  rw [he]
  clear he
  go_enter Try.func93, Try.ntmps93
  go_wp2_with (first
    | go_big_skip
    | (refine own_box 2 _ O rfl rfl rfl rfl ?_; clear O; intro W a2 O; simp only [Act.put, List.setIfInBounds_toArray, List.set_cons_zero, List.set_cons_succ])
    | (refine own_box 3 _ O rfl rfl rfl rfl ?_; clear O; intro W a3 O; simp only [Act.put, List.setIfInBounds_toArray, List.set_cons_zero, List.set_cons_succ]; have c3 := (O.get 0 rfl).cell; have c2 := (O.get 1 rfl).cell)
    | (go_at_call 65; refine (inside_any _ _ _).mono ?_; rintro e W ⟨rfl, rfl⟩))
  go_ret
  exact ⟨by rw [H.out]; rfl, O.keep⟩

set_option maxRecDepth 100000 in
theorem meant_12 (e : Ev) (he : e.op = 12) : Calls Try.prog 93 #[.agg (sysV S A c R d), .agg (evC e)] w fun x w' => x = .returned (.bool (meantB S e)) ∧ Keeps w w' [] := by
  have O := Own.start w []
  have _u := hh
  clear _u
  have H := Lib.hid (show meantB S e = (decide (0 ≤ e.a) && decide (e.a < cnt S 12)) by simp [meantB, he, cnt]; omega)
  unfold sysV evC
  rw [he]
  clear he
  go_enter Try.func93, Try.ntmps93
  go_wp2_with (first
    | go_big_skip
    | (refine own_box 2 _ O rfl rfl rfl rfl ?_; clear O; intro W a2 O; simp only [Act.put, List.setIfInBounds_toArray, List.set_cons_zero, List.set_cons_succ])
    | (refine own_box 3 _ O rfl rfl rfl rfl ?_; clear O; intro W a3 O; simp only [Act.put, List.setIfInBounds_toArray, List.set_cons_zero, List.set_cons_succ]; have c3 := (O.get 0 rfl).cell; have c2 := (O.get 1 rfl).cell)
    | (go_at_call 65; refine (inside_any _ _ _).mono ?_; rintro e W ⟨rfl, rfl⟩))
  go_ret
  exact ⟨by rw [H.out]; rfl, O.keep⟩

set_option maxRecDepth 100000 in
theorem meant_13 (e : Ev) (he : e.op = 13) : Calls Try.prog 93 #[.agg (sysV S A c R d), .agg (evC e)] w fun x w' => x = .returned (.bool (meantB S e)) ∧ Keeps w w' [] := by
  have O := Own.start w []
  have _u := hh
  clear _u
  have H := Lib.hid (show meantB S e = (decide (0 ≤ e.a) && decide (e.a < cnt S 13)) by simp [meantB, he, cnt]; omega)
  unfold sysV evC
  rw [he]
  clear he
  go_enter Try.func93, Try.ntmps93
  go_wp2_with (first
    | go_big_skip
    | (refine own_box 2 _ O rfl rfl rfl rfl ?_; clear O; intro W a2 O; simp only [Act.put, List.setIfInBounds_toArray, List.set_cons_zero, List.set_cons_succ])
    | (refine own_box 3 _ O rfl rfl rfl rfl ?_; clear O; intro W a3 O; simp only [Act.put, List.setIfInBounds_toArray, List.set_cons_zero, List.set_cons_succ]; have c3 := (O.get 0 rfl).cell; have c2 := (O.get 1 rfl).cell)
    | (go_at_call 65; refine (inside_any _ _ _).mono ?_; rintro e W ⟨rfl, rfl⟩))
  go_ret
  exact ⟨by rw [H.out]; rfl, O.keep⟩

set_option maxRecDepth 100000 in
theorem meant_14 (e : Ev) (he : e.op = 14) : Calls Try.prog 93 #[.agg (sysV S A c R d), .agg (evC e)] w fun x w' => x = .returned (.bool (meantB S e)) ∧ Keeps w w' [] := by
  have O := Own.start w []
  have _u := hh
  clear _u
  have H := Lib.hid (show meantB S e = (decide (0 ≤ e.a) && decide (e.a < cnt S 14)) by simp [meantB, he, cnt]; omega)
  unfold sysV evC
  rw [he]
  clear he
  go_enter Try.func93, Try.ntmps93
  go_wp2_with (first
    | go_big_skip
    | (refine own_box 2 _ O rfl rfl rfl rfl ?_; clear O; intro W a2 O; simp only [Act.put, List.setIfInBounds_toArray, List.set_cons_zero, List.set_cons_succ])
    | (refine own_box 3 _ O rfl rfl rfl rfl ?_; clear O; intro W a3 O; simp only [Act.put, List.setIfInBounds_toArray, List.set_cons_zero, List.set_cons_succ]; have c3 := (O.get 0 rfl).cell; have c2 := (O.get 1 rfl).cell)
    | (go_at_call 65; refine (inside_any _ _ _).mono ?_; rintro e W ⟨rfl, rfl⟩))
  go_ret
  exact ⟨by rw [H.out]; rfl, O.keep⟩

set_option maxRecDepth 100000 in
theorem meant_lo (e : Ev) (h5 : ¬ e.op = 5) (h6 : ¬ e.op = 6) (h7 : ¬ e.op = 7) (h8 : ¬ e.op = 8) (h9 : ¬ e.op = 9) (h10 : ¬ e.op = 10) (h11 : ¬ e.op = 11) (h12 : ¬ e.op = 12) (h13 : ¬ e.op = 13) (h14 : ¬ e.op = 14) (h : e.op < 1) : Calls Try.prog 93 #[.agg (sysV S A c R d), .agg (evC e)] w fun x w' => x = .returned (.bool (meantB S e)) ∧ Keeps w w' [] := by
  have O := Own.start w []
  have _u := hh
  clear _u
  have H := Lib.hid (show meantB S e = false by simp [meantB, cnt, h5, h6, h7, h8, h9, h10, h11, h12, h13, h14]; omega)
  have q1 : (1 ≤ e.op) = False := by simp; omega
  skip
  unfold sysV evC
  go_enter Try.func93, Try.ntmps93
  go_wp2_with (first
    | go_big_skip
    | (refine own_box 2 _ O rfl rfl rfl rfl ?_; clear O; intro W a2 O; simp only [Act.put, List.setIfInBounds_toArray, List.set_cons_zero, List.set_cons_succ])
    | (refine own_box 3 _ O rfl rfl rfl rfl ?_; clear O; intro W a3 O; simp only [Act.put, List.setIfInBounds_toArray, List.set_cons_zero, List.set_cons_succ]; have c3 := (O.get 0 rfl).cell; have c2 := (O.get 1 rfl).cell))
  go_ret
  exact ⟨by rw [H.out]; rfl, O.keep⟩

set_option maxRecDepth 100000 in
theorem meant_hi (e : Ev) (h5 : ¬ e.op = 5) (h6 : ¬ e.op = 6) (h7 : ¬ e.op = 7) (h8 : ¬ e.op = 8) (h9 : ¬ e.op = 9) (h10 : ¬ e.op = 10) (h11 : ¬ e.op = 11) (h12 : ¬ e.op = 12) (h13 : ¬ e.op = 13) (h14 : ¬ e.op = 14) (h : 16 < e.op) : Calls Try.prog 93 #[.agg (sysV S A c R d), .agg (evC e)] w fun x w' => x = .returned (.bool (meantB S e)) ∧ Keeps w w' [] := by
  have O := Own.start w []
  have _u := hh
  clear _u
  have H := Lib.hid (show meantB S e = false by simp [meantB, cnt, h5, h6, h7, h8, h9, h10, h11, h12, h13, h14]; omega)
  have q1 : (1 ≤ e.op) = True := by simp; omega
  have q2 : (e.op ≤ 16) = False := by simp; omega
  unfold sysV evC
  go_enter Try.func93, Try.ntmps93
  go_wp2_with (first
    | go_big_skip
    | (refine own_box 2 _ O rfl rfl rfl rfl ?_; clear O; intro W a2 O; simp only [Act.put, List.setIfInBounds_toArray, List.set_cons_zero, List.set_cons_succ])
    | (refine own_box 3 _ O rfl rfl rfl rfl ?_; clear O; intro W a3 O; simp only [Act.put, List.setIfInBounds_toArray, List.set_cons_zero, List.set_cons_succ]; have c3 := (O.get 0 rfl).cell; have c2 := (O.get 1 rfl).cell))
  go_ret
  exact ⟨by rw [H.out]; rfl, O.keep⟩

set_option maxRecDepth 100000 in
theorem meant_ok (e : Ev) (h5 : ¬ e.op = 5) (h6 : ¬ e.op = 6) (h7 : ¬ e.op = 7) (h8 : ¬ e.op = 8) (h9 : ¬ e.op = 9) (h10 : ¬ e.op = 10) (h11 : ¬ e.op = 11) (h12 : ¬ e.op = 12) (h13 : ¬ e.op = 13) (h14 : ¬ e.op = 14) (h : 1 ≤ e.op ∧ e.op ≤ 16) : Calls Try.prog 93 #[.agg (sysV S A c R d), .agg (evC e)] w fun x w' => x = .returned (.bool (meantB S e)) ∧ Keeps w w' [] := by
  have O := Own.start w []
  have _u := hh
  clear _u
  have H := Lib.hid (show meantB S e = true by simp [meantB, cnt, h5, h6, h7, h8, h9, h10, h11, h12, h13, h14]; omega)
  have q1 : (1 ≤ e.op) = True := by simp; omega
  have q2 : (e.op ≤ 16) = True := by simp; omega
  unfold sysV evC
  go_enter Try.func93, Try.ntmps93
  go_wp2_with (first
    | go_big_skip
    | (refine own_box 2 _ O rfl rfl rfl rfl ?_; clear O; intro W a2 O; simp only [Act.put, List.setIfInBounds_toArray, List.set_cons_zero, List.set_cons_succ])
    | (refine own_box 3 _ O rfl rfl rfl rfl ?_; clear O; intro W a3 O; simp only [Act.put, List.setIfInBounds_toArray, List.set_cons_zero, List.set_cons_succ]; have c3 := (O.get 0 rfl).cell; have c2 := (O.get 1 rfl).cell))
  go_ret
  exact ⟨by rw [H.out]; rfl, O.keep⟩
theorem meant_any (e : Ev) : Calls Try.prog 93 #[.agg (sysV S A c R d), .agg (evC e)] w fun x w' => x = .returned (.bool (meantB S e)) ∧ Keeps w w' [] := by
  by_cases h5 : e.op = 5
  · exact meant_5 S A c R d w hh e h5
  by_cases h6 : e.op = 6
  · exact meant_6 S A c R d w hh e h6
  by_cases h7 : e.op = 7
  · exact meant_7 S A c R d w hh e h7
  by_cases h8 : e.op = 8
  · exact meant_8 S A c R d w hh e h8
  by_cases h9 : e.op = 9
  · exact meant_9 S A c R d w hh e h9
  by_cases h10 : e.op = 10
  · exact meant_10 S A c R d w hh e h10
  by_cases h11 : e.op = 11
  · exact meant_11 S A c R d w hh e h11
  by_cases h12 : e.op = 12
  · exact meant_12 S A c R d w hh e h12
  by_cases h13 : e.op = 13
  · exact meant_13 S A c R d w hh e h13
  by_cases h14 : e.op = 14
  · exact meant_14 S A c R d w hh e h14
  by_cases l1 : e.op < 1
  · exact meant_lo S A c R d w hh e h5 h6 h7 h8 h9 h10 h11 h12 h13 h14 l1
  by_cases l2 : 16 < e.op
  · exact meant_hi S A c R d w hh e h5 h6 h7 h8 h9 h10 h11 h12 h13 h14 l2
  exact meant_ok S A c R d w hh e h5 h6 h7 h8 h9 h10 h11 h12 h13 h14 (by omega)
end
end Go.Proofs.Ytakmcpadkanggaa

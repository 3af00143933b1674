/-
  The document's answer: the locks that an event's runner holds (quernref14.Held).
-/
import Derived.Test.YtakmcpadkanggaaT14
import Derived.Great.BuildSlice
namespace Go.Proofs.Ytakmcpadkanggaa
open Go.RowKit Go.Maps Go.Deep

/-- The locks below m that the runner of event i holds ahead of it. -/
def heldN (E : Nat → Ev) (i : Nat) : Nat → List Int
  | 0 => []
  | k + 1 => heldN E i k ++ (if refW E k i = (E i).who then [(k : Int)] else [])
theorem heldN_length (E : Nat → Ev) (i : Nat) : ∀ m, (heldN E i m).length ≤ m
  | 0 => by simp [heldN]
  | m + 1 => by
    have := heldN_length E i m
    simp only [heldN, List.length_append]
    split <;> simp <;> omega
section
variable {w : World} {S : Sys} {A : Option Addr} {c : Nat} {R : Option Addr} {d n : Nat} {E : Nat → Ev} {B : Option Addr} {cb : Nat}
set_option maxRecDepth 100000 in
set_option maxHeartbeats 1000000 in
theorem holds_any (hh : headB S = true) (hE : EvsAt w B n E) (hn : n ≤ 40000) (i : Nat) (hi : i < n) (m : Nat) (hm : S.lk = (m : Int)) : Calls Try.prog 66 #[.agg (sysV S A c R d), .slice B n cb, .int .i64 (i : Int)] w fun e w' => (∃ v, e = .returned v ∧ Mint w.heap.size w' v (heldN E i m)) ∧ Keeps w w' [] := by
  have O := Own.start w []
  obtain ⟨h0, h1, h2, h3, h4, h5⟩ := (headB_iff S).1 hh
  rw [shB_iff] at h4
  obtain ⟨ad, rfl, hc⟩ := EvsAt.row (u := w) hE hi
  have HC0 := Lib.hid (fun u (K : Keeps w u []) => (show u.cell? (ad.add (i * 5)) = some (.int .i64 (E i).who) from hc [] u K (by simp) 0 (by show 0 < 5; omega)))
  have HR := Lib.hid (fun u (K : Keeps w u []) (k : Nat) => refholder_any (cb := cb) (hE.kept K) hn i (by omega) (k : Int))
  have HMM := Lib.hid hm
  have g1 : ((i : Nat) : Int) < n := by omega
  have g0 : (0 : Int) ≤ i := by omega
  have b2 : m ≤ 64 := by omega
  clear hc hE h0 h1 h2 h3 h4 h5 hh hm
  go_enter Try.func66, Try.ntmps66
  go_wp2_with (first
    | go_big_skip
    | (refine own_box 3 (sysV S A c R d) O rfl rfl rfl rfl ?_; clear O; intro W a3 O; simp only [Act.put, List.setIfInBounds_toArray, List.set_cons_zero, List.set_cons_succ]))
  go_loopw [8, 7] (fun j v wr => ∃ k : Nat, k ≤ m ∧ j = .int .i64 k ∧ Own w wr [] [(a3, 27, sysV S A c R d)] ∧ Mint w.heap.size wr v (heldN E i k)) (fun j _ _ => m - (intOf j).toNat)
  case atStart => exact ⟨0, by omega, rfl, O, Mint.nil _ _⟩
  case round =>
    obtain ⟨k, hk, rfl, O, M⟩ := hrel
    have c3 : wr.cell? ⟨a3, 3, none⟩ = some (.int .i64 (m : Int)) := ((O.get 0 rfl).cell 3).trans (by show some (Value.int .i64 S.lk) = _; rw [HMM.out])
    by_cases hlt : k < m
    · have g2 : ((k : Int)) < m := by omega
      have HL := Lib.hid (heldN_length E i k)
      have c0 : ∀ p : Later wr, p.1.cell? (ad.add (i * 5)) = some (.int .i64 (E i).who) := fun p => HC0.out _ (O.keep.trans p.2 (by simp))
      go_wp2
      clear c3
      by_cases he : refW E k i = (E i).who
      · have HN := Lib.hid (show heldN E i (k + 1) = heldN E i k ++ [(k : Int)] by simp [heldN, he])
        have HRk : ∀ u, Keeps w u [] → Hid (Calls Try.prog 68 #[.slice (some ad) n cb, .int .i64 (i : Int), .int .i64 (k : Int)] u fun e w' => e = .returned (.int .i64 (E i).who) ∧ Keeps u w' []) := fun u K => Lib.hid (by have := HR.out u K k; rwa [he] at this)
        generalize (E i).who = who at c0 HRk
        clear he
        have e1 : (who == who) = true := by simp
        refine wp_quiet_later (by kernel_rfl) (by kernel_rfl) ?_
        repeat (first
          | go_big_quiet_skip
          | go_big_quiet_step ((go_at_call 68; exact later_of (HRk _ (O.keep.trans (Later.keep _) (by simp))).out)))
        refine wpQuiet_nil ?_
        intro _ hw
        obtain ⟨p', rfl⟩ := hw
        replace O := O.keeps p'.2
        replace M := M.keeps p'.2 (by simp)
        clear c0 e1
        generalize p'.1 = W at O M ⊢
        go_wp2_with (first
          | go_big_skip
          | (refine own_lit1 27 (k : Int) O rfl rfl rfl rfl ?_; clear O; intro W gl O K1 hg; replace M := M.keeps K1 (by simp); clear K1 hg; simp only [Act.put, List.setIfInBounds_toArray, List.set_cons_zero, List.set_cons_succ])
          | (at_builtin; (refine own_app w.heap.size _ (heldN E i k) (k : Int) gl (.tmp 25) (.tmp 27) (O.drop_ 1) M rfl rfl rfl rfl ((O.get 0 rfl).cell 0) rfl (by simp) (by have := HL.out; omega) ?_; clear O M; intro v1 W O M; simp only [Act.put, List.setIfInBounds_toArray, List.set_cons_zero, List.set_cons_succ])))
        go_roundw
        case rel => exact ⟨k + 1, by omega, by go_num, O, by rw [HN.out]; exact M⟩
        case measure => (simp [intOf] <;> omega)
      · have HN := Lib.hid (show heldN E i (k + 1) = heldN E i k by simp [heldN, he])
        have HRk : ∀ u, Keeps w u [] → Hid (Calls Try.prog 68 #[.slice (some ad) n cb, .int .i64 (i : Int), .int .i64 (k : Int)] u fun e w' => e = .returned (.int .i64 (refW E k i)) ∧ Keeps u w' []) := fun u K => Lib.hid (HR.out u K k)
        have e1 : (refW E k i == (E i).who) = false := by simpa using he
        clear he
        refine wp_quiet_later (by kernel_rfl) (by kernel_rfl) ?_
        repeat (first
          | go_big_quiet_skip
          | go_big_quiet_step ((go_at_call 68; exact later_of (HRk _ (O.keep.trans (Later.keep _) (by simp))).out)))
        refine wpQuiet_nil ?_
        intro _ hw
        obtain ⟨p', rfl⟩ := hw
        replace O := O.keeps p'.2
        replace M := M.keeps p'.2 (by simp)
        clear c0 e1
        generalize p'.1 = W at O M ⊢
        go_wp2
        go_roundw
        case rel => exact ⟨k + 1, by omega, by go_num, O, by rw [HN.out]; exact M⟩
        case measure => (simp [intOf] <;> omega)
    · obtain rfl : k = m := by omega
      go_wp2
      go_ret
      exact ⟨⟨_, rfl, M⟩, O.keep⟩
theorem thr_zero (h : (thr S E n).2.2 = 0) : validB S = true ∧ n ≤ 40000 ∧ ∀ j, j < n → okE S (stN E j) (E j) = true := by
  unfold thr at h
  cases hv : validB S with
  | false => rw [hv] at h; simp at h
  | true =>
    rw [hv] at h
    by_cases hn : 40000 < n
    · simp [hn] at h
    · rw [if_pos rfl, if_neg hn] at h
      cases hf : firstBad S E n with
      | some i => rw [hf] at h; simp at h
      | none =>
        refine ⟨rfl, by omega, fun j hj => ?_⟩
        unfold firstBad at hf
        rw [List.find?_eq_none] at hf
        have := hf j (List.mem_range.2 hj)
        simpa using this
/-- What Held answers: the locks, the error. -/
def heldR (S : Sys) (E : Nat → Ev) (n : Nat) (i : Int) : List Int × Int :=
  if (thr S E n).2.2 = 0 then (if 0 ≤ i ∧ i < n then (heldN E i.toNat S.lk.toNat, 0) else ([], 1)) else ([], (thr S E n).2.2)
def HeldPost (r : List Int × Int) (w : World) (e : Ending) (w' : World) : Prop := (∃ v, e = .returned (.tuple #[v, .int .i64 r.2]) ∧ IntL w' v r.1) ∧ Keeps w w' []

set_option maxRecDepth 100000 in
theorem refheld_err (hS : SysIn w S A c R d) (hE : EvsAt w B n E) (i : Int) (h : ¬ (thr S E n).2.2 = 0) : Calls Try.prog 33 #[.agg (sysV S A c R d), .slice B n cb, .int .i64 i] w (HeldPost (heldR S E n i) w) := by
  have O := Own.start w []
  have HV : ∀ u, Keeps w u [] → Hid (Calls Try.prog 29 #[.agg (sysV S A c R d), .slice B n cb] u fun e w' => e = .returned (.tuple #[.int .i64 (thr S E n).2.1, .int .i64 (thr S E n).1, .int .i64 (thr S E n).2.2]) ∧ Keeps u w' []) := fun u k => Lib.hid (rvalid_any (hS.kept k) (hE.kept k))
  have HF := Lib.hid (show heldR S E n i = ([], (thr S E n).2.2) by simp [heldR, h])
  clear hS hE
  generalize hr : heldR S E n i = r at HF ⊢
  clear hr
  generalize thr S E n = x at *
  obtain ⟨x0, x1, x2⟩ := x
  simp only at *
  go_enter Try.func33, Try.ntmps33
  go_wp2_with (first
    | go_big_skip
    | (refine own_box 3 (sysV S A c R d) O rfl rfl rfl rfl ?_; clear O; intro W a3 O; simp only [Act.put, List.setIfInBounds_toArray, List.set_cons_zero, List.set_cons_succ])
    | (refine own_load 12 0 O rfl rfl rfl rfl rfl Try.underlying27 rfl (by kernel_rfl) ?_; simp only [Act.put, List.setIfInBounds_toArray, List.set_cons_zero, List.set_cons_succ])
    | (refine own_load 26 0 O rfl rfl rfl rfl rfl Try.underlying27 rfl (by kernel_rfl) ?_; simp only [Act.put, List.setIfInBounds_toArray, List.set_cons_zero, List.set_cons_succ])
    | (go_at_call 29; refine ((HV _ O.keep).out).mono ?_; rintro e W ⟨rfl, K⟩; replace O := O.keeps K; clear K))
  go_returns
  exact ⟨⟨_, by rw [HF.out]; rfl, by rw [HF.out]; exact IntL.nil _⟩, O.keep⟩

set_option maxRecDepth 100000 in
theorem refheld_out (hS : SysIn w S A c R d) (hE : EvsAt w B n E) (i : Int) (h : (thr S E n).2.2 = 0) (hi : ¬ (0 ≤ i ∧ i < n)) : Calls Try.prog 33 #[.agg (sysV S A c R d), .slice B n cb, .int .i64 i] w (HeldPost (heldR S E n i) w) := by
  have O := Own.start w []
  have HV : ∀ u, Keeps w u [] → Hid (Calls Try.prog 29 #[.agg (sysV S A c R d), .slice B n cb] u fun e w' => e = .returned (.tuple #[.int .i64 (thr S E n).2.1, .int .i64 (thr S E n).1, .int .i64 (thr S E n).2.2]) ∧ Keeps u w' []) := fun u k => Lib.hid (rvalid_any (hS.kept k) (hE.kept k))
  have HF := Lib.hid (show heldR S E n i = ([], 1) by simp [heldR, h]; omega)
  have HI : ∀ u, Hid (Calls Try.prog 65 #[.int .i64 i, .int .i64 (n : Int)] u fun e w' => e = .returned (.bool false) ∧ u = w') := fun u => Lib.hid (by have := inside_any i n u; rwa [show (decide (0 ≤ i) && decide (i < (n : Int))) = false by simp; omega] at this)
  clear hS hE hi
  generalize hr : heldR S E n i = r at HF ⊢
  clear hr
  generalize thr S E n = x at *
  obtain ⟨x0, x1, x2⟩ := x
  simp only at *
  go_enter Try.func33, Try.ntmps33
  go_wp2_with (first
    | go_big_skip
    | (refine own_box 3 (sysV S A c R d) O rfl rfl rfl rfl ?_; clear O; intro W a3 O; simp only [Act.put, List.setIfInBounds_toArray, List.set_cons_zero, List.set_cons_succ])
    | (refine own_load 12 0 O rfl rfl rfl rfl rfl Try.underlying27 rfl (by kernel_rfl) ?_; simp only [Act.put, List.setIfInBounds_toArray, List.set_cons_zero, List.set_cons_succ])
    | (refine own_load 26 0 O rfl rfl rfl rfl rfl Try.underlying27 rfl (by kernel_rfl) ?_; simp only [Act.put, List.setIfInBounds_toArray, List.set_cons_zero, List.set_cons_succ])
    | (go_at_call 29; refine ((HV _ O.keep).out).mono ?_; rintro e W ⟨rfl, K⟩; replace O := O.keeps K; clear K)
    | (go_at_call 65; refine ((HI _).out).mono ?_; rintro e W ⟨rfl, rfl⟩))
  go_returns
  exact ⟨⟨_, by rw [HF.out]; rfl, by rw [HF.out]; exact IntL.nil _⟩, O.keep⟩

set_option maxRecDepth 100000 in
theorem refheld_in (hS : SysIn w S A c R d) (hE : EvsAt w B n E) (i : Int) (h : (thr S E n).2.2 = 0) (hi : 0 ≤ i ∧ i < n) : Calls Try.prog 33 #[.agg (sysV S A c R d), .slice B n cb, .int .i64 i] w (HeldPost (heldR S E n i) w) := by
  have O := Own.start w []
  have HV : ∀ u, Keeps w u [] → Hid (Calls Try.prog 29 #[.agg (sysV S A c R d), .slice B n cb] u fun e w' => e = .returned (.tuple #[.int .i64 (thr S E n).2.1, .int .i64 (thr S E n).1, .int .i64 (thr S E n).2.2]) ∧ Keeps u w' []) := fun u k => Lib.hid (rvalid_any (hS.kept k) (hE.kept k))
  have HF := Lib.hid (show heldR S E n i = (heldN E i.toNat S.lk.toNat, 0) by simp [heldR, h, hi])
  have HI : ∀ u, Hid (Calls Try.prog 65 #[.int .i64 i, .int .i64 (n : Int)] u fun e w' => e = .returned (.bool true) ∧ u = w') := fun u => Lib.hid (by have := inside_any i n u; rwa [show (decide (0 ≤ i) && decide (i < (n : Int))) = true by simp; omega] at this)
  have HH : ∀ u, Keeps w u [] → Hid (Calls Try.prog 66 #[.agg (sysV S A c R d), .slice B n cb, .int .i64 i] u fun e w' => (∃ v, e = .returned v ∧ Mint u.heap.size w' v (heldN E i.toNat S.lk.toNat)) ∧ Keeps u w' []) := fun u k => Lib.hid (by
    obtain ⟨hv, hn, _⟩ := thr_zero h
    have hh := ((validB_iff S).1 hv).1
    have h4 := ((headB_iff S).1 hh).2.2.2.2.1
    rw [shB_iff] at h4
    have := holds_any (cb := cb) hh (hE.kept k) hn i.toNat (by omega) S.lk.toNat (by omega) (A := A) (c := c) (R := R) (d := d)
    rwa [show ((i.toNat : Nat) : Int) = i by omega] at this)
  clear hS hE hi
  generalize hr : heldR S E n i = r at HF ⊢
  clear hr
  generalize thr S E n = x at *
  obtain ⟨x0, x1, x2⟩ := x
  simp only at *
  go_enter Try.func33, Try.ntmps33
  go_wp2_with (first
    | go_big_skip
    | (refine own_box 3 (sysV S A c R d) O rfl rfl rfl rfl ?_; clear O; intro W a3 O; simp only [Act.put, List.setIfInBounds_toArray, List.set_cons_zero, List.set_cons_succ])
    | (refine own_load 12 0 O rfl rfl rfl rfl rfl Try.underlying27 rfl (by kernel_rfl) ?_; simp only [Act.put, List.setIfInBounds_toArray, List.set_cons_zero, List.set_cons_succ])
    | (refine own_load 26 0 O rfl rfl rfl rfl rfl Try.underlying27 rfl (by kernel_rfl) ?_; simp only [Act.put, List.setIfInBounds_toArray, List.set_cons_zero, List.set_cons_succ])
    | (go_at_call 29; refine ((HV _ O.keep).out).mono ?_; rintro e W ⟨rfl, K⟩; replace O := O.keeps K; clear K)
    | (go_at_call 65; refine ((HI _).out).mono ?_; rintro e W ⟨rfl, rfl⟩)
    | (go_at_call 66; refine ((HH _ O.keep).out).mono ?_; rintro e W ⟨⟨v, rfl, M⟩, K⟩; replace O := O.keeps K; have ML := Lib.hid M.list; clear K M))
  go_returns
  exact ⟨⟨_, by rw [HF.out]; rfl, by rw [HF.out]; exact ML.out⟩, O.keep⟩
theorem refheld_any (hS : SysIn w S A c R d) (hE : EvsAt w B n E) (i : Int) : Calls Try.prog 33 #[.agg (sysV S A c R d), .slice B n cb, .int .i64 i] w (HeldPost (heldR S E n i) w) := by
  by_cases h : (thr S E n).2.2 = 0
  · by_cases hi : 0 ≤ i ∧ i < n
    · exact refheld_in hS hE i h hi
    · exact refheld_out hS hE i h hi
  · exact refheld_err hS hE i h
end
end Go.Proofs.Ytakmcpadkanggaa

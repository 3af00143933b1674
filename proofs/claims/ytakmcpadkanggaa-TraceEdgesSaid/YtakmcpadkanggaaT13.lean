/-
  Lists of events compared; trace.Valid, trace.Runners, quernref14.Valid; the walk of TraceValids.
-/
import Derived.Test.YtakmcpadkanggaaT11
import Derived.Test.YtakmcpadkanggaaT12
namespace Go.Proofs.Ytakmcpadkanggaa
open Go.ChangeShapes Go.WideShapes Go.ChangeAt Go.RowKit Go.Maps Go.Deep

section
variable {w : World} {S : Sys} {A : Option Addr} {c : Nat} {R : Option Addr} {d n : Nat} {E : Nat → Ev} {B B' : Option Addr} {cb cb' : Nat}
set_option maxRecDepth 100000 in
theorem kept_any (hn : n ≤ 140737488351232) (hE : EvsAt w B n E) (hE' : EvsAt w B' n E) : Calls Try.prog 31 #[.slice B n cb, .slice B' n cb'] w fun e w' => e = .returned (.bool true) ∧ Keeps w w' [] := by
  have HE := Lib.hid hE
  have HE' := Lib.hid hE'
  have HS := Lib.hid ev_self
  clear hE hE'
  go_enter Try.func31, Try.ntmps31
  go_wp2
  go_loopw [5] (fun i wr => ∃ k : Nat, k ≤ n ∧ i = .int .i64 k ∧ Keeps w wr []) (fun i _ => n - (intOf i).toNat)
  case atStart => exact ⟨0, by omega, rfl, Keeps.refl _ _⟩
  case round =>
    obtain ⟨k, hk, rfl, K⟩ := hrel
    by_cases hlt : k < n
    · have g1 : ((k : Int)) < n := by omega
      have g0 : (0 : Int) ≤ k := by omega
      obtain ⟨ad, rfl, hc⟩ := EvsAt.row (u := w) HE.out hlt
      obtain ⟨ad', rfl, hc'⟩ := EvsAt.row (u := w) HE'.out hlt
      have HC := Lib.hid hc
      have HC' := Lib.hid hc'
      clear hc hc'
      have hs := HS.out (E k)
      generalize E k = e at HC HC' hs
      go_wp2
      refine wp_quiet_later (by kernel_rfl) (by kernel_rfl) ?_
      repeat (first
        | go_big_quiet_skip
        | (refine wpQuiet_load_at (cs := evC e) 20 rfl rfl rfl rfl (fun u hu => HC.out [] u (by obtain ⟨p', rfl⟩ := hu; exact K.trans p'.2 (by simp)) (by simp)) Try.underlying37 rfl (by kernel_rfl) ?_; simp only [Act.put, List.setIfInBounds_toArray, List.set_cons_zero, List.set_cons_succ])
        | (refine wpQuiet_load_at (cs := evC e) 24 rfl rfl rfl rfl (fun u hu => HC'.out [] u (by obtain ⟨p', rfl⟩ := hu; exact K.trans p'.2 (by simp)) (by simp)) Try.underlying37 rfl (by kernel_rfl) ?_; simp only [Act.put, List.setIfInBounds_toArray, List.set_cons_zero, List.set_cons_succ])
        | go_big_quiet_step (fail))
      refine wpQuiet_nil ?_
      intro _ hw
      obtain ⟨p', rfl⟩ := hw
      replace K := K.trans p'.2 (by simp)
      clear hs
      generalize p'.1 = W at K ⊢
      go_wp2
      go_roundw
      case rel => exact ⟨k + 1, by omega, by go_num, K⟩
      case measure => (simp [intOf] <;> omega)
    · obtain rfl : k = n := by omega
      go_wp2
      go_ret
      exact ⟨rfl, K⟩

set_option maxRecDepth 100000 in
theorem tvalid_any (hS : SysIn w S A c R d) (hE : EvsAt w B n E) (hwf : ∀ i, i < n → (Lit.int .i64 (E i).a).wf = true) : Calls Try.prog 28 #[.agg (sysV S A c R d), .slice B n cb] w fun e w' => e = .returned (.tuple #[.int .i64 (thr S E n).2.1, .int .i64 (thr S E n).2.2]) ∧ Keeps w w' [] := by
  have O := Own.start w []
  have HT : ∀ u, Keeps w u [] → Hid (Calls Try.prog 60 #[.agg (sysV S A c R d), .slice B n cb] u fun e w' => e = .returned (.tuple #[.int .i64 (thr S E n).1, .int .i64 (thr S E n).2.1, .int .i64 (thr S E n).2.2]) ∧ Keeps u w' []) := fun u k => Lib.hid (through_any (hS.kept k) (hE.kept k) hwf)
  clear hS hE hwf
  generalize thr S E n = x at *
  obtain ⟨x0, x1, x2⟩ := x
  go_enter Try.func28, Try.ntmps28
  go_wp2_with (first
    | go_big_skip
    | (refine own_box 2 (sysV S A c R d) O rfl rfl rfl rfl ?_; clear O; intro W a2 O; simp only [Act.put, List.setIfInBounds_toArray, List.set_cons_zero, List.set_cons_succ])
    | (refine own_load 10 0 O rfl rfl rfl rfl rfl Try.underlying27 rfl (by kernel_rfl) ?_; simp only [Act.put, List.setIfInBounds_toArray, List.set_cons_zero, List.set_cons_succ])
    | (go_at_call 60; refine ((HT _ O.keep).out).mono ?_; rintro e W ⟨rfl, K⟩; replace O := O.keeps K; clear K))
  go_returns
  exact ⟨rfl, O.keep⟩

set_option maxRecDepth 100000 in
theorem trunners_any (hS : SysIn w S A c R d) (hE : EvsAt w B n E) (hwf : ∀ i, i < n → (Lit.int .i64 (E i).a).wf = true) : Calls Try.prog 30 #[.agg (sysV S A c R d), .slice B n cb] w fun e w' => e = .returned (.tuple #[.int .i64 (thr S E n).1, .int .i64 (thr S E n).2.2]) ∧ Keeps w w' [] := by
  have O := Own.start w []
  have HT : ∀ u, Keeps w u [] → Hid (Calls Try.prog 60 #[.agg (sysV S A c R d), .slice B n cb] u fun e w' => e = .returned (.tuple #[.int .i64 (thr S E n).1, .int .i64 (thr S E n).2.1, .int .i64 (thr S E n).2.2]) ∧ Keeps u w' []) := fun u k => Lib.hid (through_any (hS.kept k) (hE.kept k) hwf)
  clear hS hE hwf
  generalize thr S E n = x at *
  obtain ⟨x0, x1, x2⟩ := x
  go_enter Try.func30, Try.ntmps30
  go_wp2_with (first
    | go_big_skip
    | (refine own_box 2 (sysV S A c R d) O rfl rfl rfl rfl ?_; clear O; intro W a2 O; simp only [Act.put, List.setIfInBounds_toArray, List.set_cons_zero, List.set_cons_succ])
    | (refine own_load 10 0 O rfl rfl rfl rfl rfl Try.underlying27 rfl (by kernel_rfl) ?_; simp only [Act.put, List.setIfInBounds_toArray, List.set_cons_zero, List.set_cons_succ])
    | (go_at_call 60; refine ((HT _ O.keep).out).mono ?_; rintro e W ⟨rfl, K⟩; replace O := O.keeps K; clear K))
  go_returns
  exact ⟨rfl, O.keep⟩

set_option maxRecDepth 100000 in
theorem rv_sys (hS : SysIn w S A c R d) (_hE : EvsAt w B n E) (h : validB S = false) : Calls Try.prog 29 #[.agg (sysV S A c R d), .slice B n cb] w fun e w' => e = .returned (.tuple #[.int .i64 (thr S E n).2.1, .int .i64 (thr S E n).1, .int .i64 (thr S E n).2.2]) ∧ Keeps w w' [] := by
  have O := Own.start w []
  have HV : ∀ u, Keeps w u [] → Hid (Calls Try.prog 23 #[.agg (sysV S A c R d)] u fun e w' => e = .returned (.bool false) ∧ Keeps u w' []) := fun u k => Lib.hid (by have := refvalid_any (hS.kept k); rwa [h] at this)
  have HF := Lib.hid (show thr S E n = (0, 0, 130) by simp [thr, h])
  clear h
  clear hS _hE
  go_enter Try.func29, Try.ntmps29
  go_wp2_with (first
    | go_big_skip
    | (refine own_box 2 (sysV S A c R d) O rfl rfl rfl rfl ?_; clear O; intro W a2 O; simp only [Act.put, List.setIfInBounds_toArray, List.set_cons_zero, List.set_cons_succ])
    | (refine own_load 9 0 O rfl rfl rfl rfl rfl Try.underlying27 rfl (by kernel_rfl) ?_; simp only [Act.put, List.setIfInBounds_toArray, List.set_cons_zero, List.set_cons_succ])
    | (refine own_load 16 0 O rfl rfl rfl rfl rfl Try.underlying27 rfl (by kernel_rfl) ?_; simp only [Act.put, List.setIfInBounds_toArray, List.set_cons_zero, List.set_cons_succ])
    | (go_at_call 23; refine ((HV _ O.keep).out).mono ?_; rintro e W ⟨rfl, K⟩; replace O := O.keeps K; clear K))
  go_returns
  exact ⟨by rw [HF.out]; rfl, O.keep⟩

set_option maxRecDepth 100000 in
theorem rv_long (hS : SysIn w S A c R d) (_hE : EvsAt w B n E) (h : validB S = true) (hn : 40000 < n) : Calls Try.prog 29 #[.agg (sysV S A c R d), .slice B n cb] w fun e w' => e = .returned (.tuple #[.int .i64 (thr S E n).2.1, .int .i64 (thr S E n).1, .int .i64 (thr S E n).2.2]) ∧ Keeps w w' [] := by
  have O := Own.start w []
  have HV : ∀ u, Keeps w u [] → Hid (Calls Try.prog 23 #[.agg (sysV S A c R d)] u fun e w' => e = .returned (.bool true) ∧ Keeps u w' []) := fun u k => Lib.hid (by have := refvalid_any (hS.kept k); rwa [h] at this)
  have HF := Lib.hid (show thr S E n = (0, 0, 2) by simp [thr, h, hn])
  have g0 : 40000 < (n : Int) := by omega
  clear h hn
  clear hS _hE
  go_enter Try.func29, Try.ntmps29
  go_wp2_with (first
    | go_big_skip
    | (refine own_box 2 (sysV S A c R d) O rfl rfl rfl rfl ?_; clear O; intro W a2 O; simp only [Act.put, List.setIfInBounds_toArray, List.set_cons_zero, List.set_cons_succ])
    | (refine own_load 9 0 O rfl rfl rfl rfl rfl Try.underlying27 rfl (by kernel_rfl) ?_; simp only [Act.put, List.setIfInBounds_toArray, List.set_cons_zero, List.set_cons_succ])
    | (refine own_load 16 0 O rfl rfl rfl rfl rfl Try.underlying27 rfl (by kernel_rfl) ?_; simp only [Act.put, List.setIfInBounds_toArray, List.set_cons_zero, List.set_cons_succ])
    | (go_at_call 23; refine ((HV _ O.keep).out).mono ?_; rintro e W ⟨rfl, K⟩; replace O := O.keeps K; clear K))
  go_returns
  exact ⟨by rw [HF.out]; rfl, O.keep⟩

set_option maxRecDepth 100000 in
theorem rv_bad (hS : SysIn w S A c R d) (hE : EvsAt w B n E) (h : validB S = true) (hn : n ≤ 40000) (i : Nat) (hf : firstBad S E n = some i) : Calls Try.prog 29 #[.agg (sysV S A c R d), .slice B n cb] w fun e w' => e = .returned (.tuple #[.int .i64 (thr S E n).2.1, .int .i64 (thr S E n).1, .int .i64 (thr S E n).2.2]) ∧ Keeps w w' [] := by
  have O := Own.start w []
  have HV : ∀ u, Keeps w u [] → Hid (Calls Try.prog 23 #[.agg (sysV S A c R d)] u fun e w' => e = .returned (.bool true) ∧ Keeps u w' []) := fun u k => Lib.hid (by have := refvalid_any (hS.kept k); rwa [h] at this)
  have HT : ∀ u, Keeps w u [] → Hid (Calls Try.prog 61 #[.agg (sysV S A c R d), .slice B n cb] u fun e w' => e = .returned (.tuple #[.int .i64 (i : Int), .int .i64 0]) ∧ Keeps u w' []) := fun u k => Lib.hid (by have := fault_any ((validB_iff S).1 h).1 (hS.kept k) (hE.kept k) (cb := cb) (by omega); rwa [show flt S E n = ((i : Int), 0) by simp [flt, hf]] at this)
  have HF := Lib.hid (show thr S E n = (0, (i : Int), 140) by simp [thr, h, hf]; omega)
  have g0 : ¬ 40000 < (n : Int) := by omega
  have g1 : (0 : Int) ≤ i := by omega
  clear h hn hf
  clear hS hE
  go_enter Try.func29, Try.ntmps29
  go_wp2_with (first
    | go_big_skip
    | (refine own_box 2 (sysV S A c R d) O rfl rfl rfl rfl ?_; clear O; intro W a2 O; simp only [Act.put, List.setIfInBounds_toArray, List.set_cons_zero, List.set_cons_succ])
    | (refine own_load 9 0 O rfl rfl rfl rfl rfl Try.underlying27 rfl (by kernel_rfl) ?_; simp only [Act.put, List.setIfInBounds_toArray, List.set_cons_zero, List.set_cons_succ])
    | (refine own_load 16 0 O rfl rfl rfl rfl rfl Try.underlying27 rfl (by kernel_rfl) ?_; simp only [Act.put, List.setIfInBounds_toArray, List.set_cons_zero, List.set_cons_succ])
    | (go_at_call 23; refine ((HV _ O.keep).out).mono ?_; rintro e W ⟨rfl, K⟩; replace O := O.keeps K; clear K)
    | (go_at_call 61; refine ((HT _ O.keep).out).mono ?_; rintro e W ⟨rfl, K⟩; replace O := O.keeps K; clear K))
  go_returns
  exact ⟨by rw [HF.out]; rfl, O.keep⟩

set_option maxRecDepth 100000 in
theorem rv_good (hS : SysIn w S A c R d) (hE : EvsAt w B n E) (h : validB S = true) (hn : n ≤ 40000) (hf : firstBad S E n = none) : Calls Try.prog 29 #[.agg (sysV S A c R d), .slice B n cb] w fun e w' => e = .returned (.tuple #[.int .i64 (thr S E n).2.1, .int .i64 (thr S E n).1, .int .i64 (thr S E n).2.2]) ∧ Keeps w w' [] := by
  have O := Own.start w []
  have HV : ∀ u, Keeps w u [] → Hid (Calls Try.prog 23 #[.agg (sysV S A c R d)] u fun e w' => e = .returned (.bool true) ∧ Keeps u w' []) := fun u k => Lib.hid (by have := refvalid_any (hS.kept k); rwa [h] at this)
  have HT : ∀ u, Keeps w u [] → Hid (Calls Try.prog 61 #[.agg (sysV S A c R d), .slice B n cb] u fun e w' => e = .returned (.tuple #[.int .i64 (-1), .int .i64 (stN E n).r]) ∧ Keeps u w' []) := fun u k => Lib.hid (by have := fault_any ((validB_iff S).1 h).1 (hS.kept k) (hE.kept k) (cb := cb) (by omega); rwa [show flt S E n = ((-1), (stN E n).r) by simp [flt, hf]] at this)
  have HF := Lib.hid (show thr S E n = ((stN E n).r, 0, 0) by simp [thr, h, hf]; omega)
  have g0 : ¬ 40000 < (n : Int) := by omega
  clear h hn hf
  clear hS hE
  go_enter Try.func29, Try.ntmps29
  go_wp2_with (first
    | go_big_skip
    | (refine own_box 2 (sysV S A c R d) O rfl rfl rfl rfl ?_; clear O; intro W a2 O; simp only [Act.put, List.setIfInBounds_toArray, List.set_cons_zero, List.set_cons_succ])
    | (refine own_load 9 0 O rfl rfl rfl rfl rfl Try.underlying27 rfl (by kernel_rfl) ?_; simp only [Act.put, List.setIfInBounds_toArray, List.set_cons_zero, List.set_cons_succ])
    | (refine own_load 16 0 O rfl rfl rfl rfl rfl Try.underlying27 rfl (by kernel_rfl) ?_; simp only [Act.put, List.setIfInBounds_toArray, List.set_cons_zero, List.set_cons_succ])
    | (go_at_call 23; refine ((HV _ O.keep).out).mono ?_; rintro e W ⟨rfl, K⟩; replace O := O.keeps K; clear K)
    | (go_at_call 61; refine ((HT _ O.keep).out).mono ?_; rintro e W ⟨rfl, K⟩; replace O := O.keeps K; clear K))
  go_returns
  exact ⟨by rw [HF.out]; rfl, O.keep⟩

theorem rvalid_any (hS : SysIn w S A c R d) (hE : EvsAt w B n E) : Calls Try.prog 29 #[.agg (sysV S A c R d), .slice B n cb] w fun e w' => e = .returned (.tuple #[.int .i64 (thr S E n).2.1, .int .i64 (thr S E n).1, .int .i64 (thr S E n).2.2]) ∧ Keeps w w' [] := by
  cases h : validB S with
  | false => exact rv_sys hS hE h
  | true =>
    by_cases hn : 40000 < n
    · exact rv_long hS hE h hn
    · cases hf : firstBad S E n with
      | none => exact rv_good hS hE h (by omega) hf
      | some i => exact rv_bad hS hE h (by omega) i hf

set_option maxRecDepth 100000 in
set_option maxHeartbeats 1000000 in
theorem valids_walk (hS : SysIn w S A c R d) (hE : EvsAt w B n E) (hwf : ∀ i, i < n → (Lit.int .i64 (E i).a).wf = true) (hB : B = none → n = 0 ∧ cb = 0) (hn : n * 40 ≤ 140737488351232) :
    Calls Try.prog 9 #[.agg (sysV S A c R d), .slice B n cb] w fun e w' => e = .returned (.bool true) ∧ Keeps w w' [] := by
  have O := Own.start w []
  have HC : ∀ u, Keeps w u [] → Hid (Calls Try.prog 27 #[.slice B n cb] u fun e w' => (∃ B' c', e = .returned (.slice B' n c') ∧ EvsAt w' B' n E) ∧ Keeps u w' []) := fun u k => Lib.hid (copied_any (hE.kept k) hB hn)
  have HV := Lib.hid (fun u (k : Keeps w u []) B' c' (h : EvsAt u B' n E) => tvalid_any (cb := c') (hS.kept k) h hwf)
  have HN := Lib.hid (fun u (k : Keeps w u []) B' c' (h : EvsAt u B' n E) => trunners_any (cb := c') (hS.kept k) h hwf)
  have HR := Lib.hid (fun u (k : Keeps w u []) => rvalid_any (cb := cb) (hS.kept k) (hE.kept k))
  have HK := Lib.hid (fun u (k : Keeps w u []) B' c' (h : EvsAt u B' n E) => kept_any (cb := c') (cb' := cb) (by omega) h (hE.kept k))
  clear hS hE hwf hB hn
  generalize thr S E n = x at *
  obtain ⟨x0, x1, x2⟩ := x
  go_enter Try.func9, Try.ntmps9
  go_wp2_with (first
    | go_big_skip
    | (refine own_box 2 (sysV S A c R d) O rfl rfl rfl rfl ?_; clear O; intro W a2 O; simp only [Act.put, List.setIfInBounds_toArray, List.set_cons_zero, List.set_cons_succ])
    | (refine own_load 15 0 O rfl rfl rfl rfl rfl Try.underlying27 rfl (by kernel_rfl) ?_; simp only [Act.put, List.setIfInBounds_toArray, List.set_cons_zero, List.set_cons_succ])
    | (refine own_load 21 0 O rfl rfl rfl rfl rfl Try.underlying27 rfl (by kernel_rfl) ?_; simp only [Act.put, List.setIfInBounds_toArray, List.set_cons_zero, List.set_cons_succ])
    | (refine own_load 36 0 O rfl rfl rfl rfl rfl Try.underlying27 rfl (by kernel_rfl) ?_; simp only [Act.put, List.setIfInBounds_toArray, List.set_cons_zero, List.set_cons_succ])
    | (go_at_call 27; refine ((HC _ O.keep).out).mono ?_; rintro e W ⟨⟨B', c', rfl, HB'⟩, K⟩; replace O := O.keeps K; clear K; have HM := Lib.hid HB'; clear HB')
    | (go_at_call 28; refine (HV.out _ O.keep _ _ HM.out).mono ?_; rintro e W ⟨rfl, K⟩; replace O := O.keeps K; replace HM := Lib.hid (HM.out.kept K); clear K)
    | (go_at_call 29; refine (HR.out _ O.keep).mono ?_; rintro e W ⟨rfl, K⟩; replace O := O.keeps K; replace HM := Lib.hid (HM.out.kept K); clear K)
    | (go_at_call 30; refine (HN.out _ O.keep _ _ HM.out).mono ?_; rintro e W ⟨rfl, K⟩; replace O := O.keeps K; replace HM := Lib.hid (HM.out.kept K); clear K)
    | (go_at_call 31; refine (HK.out _ O.keep _ _ HM.out).mono ?_; rintro e W ⟨rfl, K⟩; replace O := O.keeps K; clear K))
  go_ret
  exact ⟨rfl, O.keep⟩
end
end Go.Proofs.Ytakmcpadkanggaa

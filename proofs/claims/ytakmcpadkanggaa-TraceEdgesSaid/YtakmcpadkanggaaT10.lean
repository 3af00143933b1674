/-
  A whole list of events: trace.through, Valid, Runners.
-/
import Derived.Test.YtakmcpadkanggaaLite
import Derived.Test.YtakmcpadkanggaaT9
import Derived.Carry
import Derived.Handy
namespace Go.Proofs.Ytakmcpadkanggaa
open Go.RowKit Go.Maps

section
variable {ops : Array Oper} {rest : List Oper} {o : Oper} {a : Act} {w W : World} {Q : Exit → Act → World → Prop} {S : List Nat} {L : List Ent} {T : TypeId}
theorem own_makeMap (d : Nat) (O : Own w W S L) (_hd : o.dst = some d) (hgd : o.guard = none) (ho : o.op = .makeMap T none)
    (h : ∀ u b, Own w u S L → Keeps W u [] → MapB u b 0 (fun _ => false) → MapI u b 0 (fun _ => 0) → W.heap.size ≤ b → wpList Try.prog ops Q rest (a.put o.dst (.map (some b))) u) : wpList Try.prog ops Q (o :: rest) a W := by
  refine wpList_plain hgd fun K hK => ?_
  have k := (Keeps.refl W []).alloc (.map #[] 0)
  unfold Oper.wp execOp
  simp only [ho, Sem.run_bind, Sem.run_pure]
  exact hK _ _ (h _ _ (O.keeps k) k (MapB.made W) (MapI.made W) (Nat.le_refl _))
end
theorem layV_cell (S : Sys) (A : Option Addr) (c : Nat) (R : Option Addr) (d : Nat) (r : Int) (bh bs bt bu : Nat) : ∀ v ∈ (layV S A c R d r bh bs bt bu).toList, v.oneCell' = true := by
  intro v hv
  simp only [layV, List.mem_cons, List.not_mem_nil, or_false] at hv
  rcases hv with rfl | rfl | rfl | rfl | rfl | rfl | rfl | rfl | rfl | rfl <;> rfl
/-- The first event that may not be. -/
def firstBad (S : Sys) (E : Nat → Ev) (n : Nat) : Option Nat := (List.range n).find? fun j => !okE S (stN E j) (E j)
theorem firstBad_none {S : Sys} {E : Nat → Ev} {n : Nat} (h : ∀ j, j < n → okE S (stN E j) (E j) = true) : firstBad S E n = none := by
  unfold firstBad
  rw [List.find?_eq_none]
  intro x hx
  simp [h x (List.mem_range.1 hx)]
theorem firstBad_some {S : Sys} {E : Nat → Ev} {n k : Nat} (h : ∀ j, j < k → okE S (stN E j) (E j) = true) (hk : k < n) (hb : okE S (stN E k) (E k) = false) : firstBad S E n = some k := by
  unfold firstBad
  rw [List.find?_range_eq_some]
  exact ⟨by simp [hb], List.mem_range.2 hk, fun j hj => by simp [h j hj]⟩
/-- What through tells: how many runners, the first wrong event, the error. -/
def thr (S : Sys) (E : Nat → Ev) (n : Nat) : Int × Int × Int :=
  if validB S then (if 40000 < n then (0, 0, 2) else match firstBad S E n with | some i => (0, (i : Int), 140) | none => ((stN E n).r, 0, 0)) else (0, 0, 130)
def thrV (x : Int × Int × Int) : Value := .tuple #[.int .i64 x.1, .int .i64 x.2.1, .int .i64 x.2.2]
section
variable {w : World} {S : Sys} {A : Option Addr} {c : Nat} {R : Option Addr} {d n : Nat} {E : Nat → Ev} {B : Option Addr} {cb : Nat}

set_option maxRecDepth 100000 in
theorem through_sys (hS : SysIn w S A c R d) (h : validB S = false) : Calls Try.prog 60 #[.agg (sysV S A c R d), .slice B n cb] w fun e w' => e = .returned (thrV (thr S E n)) ∧ Keeps w w' [] := by
  have O := Own.start w []
  have HV : ∀ u, Keeps w u [] → Hid (Calls Try.prog 21 #[.agg (sysV S A c R d)] u fun e w' => e = .returned (.int .i64 130) ∧ Keeps u w' []) := fun u k => Lib.hid (by have := valid_any (hS.kept k); rwa [validE_no h] at this)
  have HF := Lib.hid (show thr S E n = (0, 0, 130) by simp [thr, h])
  clear h hS
  go_enter Try.func60, Try.ntmps60
  go_wp2_with (first
    | go_big_skip
    | (refine own_box 2 (sysV S A c R d) O rfl rfl rfl rfl ?_; clear O; intro W a2 O; simp only [Act.put, List.setIfInBounds_toArray, List.set_cons_zero, List.set_cons_succ])
    | (refine own_load 11 0 O rfl rfl rfl rfl rfl Try.underlying27 rfl (by kernel_rfl) ?_; simp only [Act.put, List.setIfInBounds_toArray, List.set_cons_zero, List.set_cons_succ])
    | (go_at_call 21; refine ((HV _ O.keep).out).mono ?_; rintro e W ⟨rfl, K⟩; replace O := O.keeps K; clear K))
  go_returns
  exact ⟨by rw [HF.out]; rfl, O.keep⟩

set_option maxRecDepth 100000 in
theorem through_long (hS : SysIn w S A c R d) (h : validB S = true) (hn : 40000 < n) : Calls Try.prog 60 #[.agg (sysV S A c R d), .slice B n cb] w fun e w' => e = .returned (thrV (thr S E n)) ∧ Keeps w w' [] := by
  have O := Own.start w []
  have HV : ∀ u, Keeps w u [] → Hid (Calls Try.prog 21 #[.agg (sysV S A c R d)] u fun e w' => e = .returned (.int .i64 0) ∧ Keeps u w' []) := fun u k => Lib.hid (by have := valid_any (hS.kept k); rwa [validE_yes h] at this)
  have HF := Lib.hid (show thr S E n = (0, 0, 2) by simp [thr, h, hn])
  have g0 : 40000 < (n : Int) := by omega
  clear h hS
  go_enter Try.func60, Try.ntmps60
  go_wp2_with (first
    | go_big_skip
    | (refine own_box 2 (sysV S A c R d) O rfl rfl rfl rfl ?_; clear O; intro W a2 O; simp only [Act.put, List.setIfInBounds_toArray, List.set_cons_zero, List.set_cons_succ])
    | (refine own_load 11 0 O rfl rfl rfl rfl rfl Try.underlying27 rfl (by kernel_rfl) ?_; simp only [Act.put, List.setIfInBounds_toArray, List.set_cons_zero, List.set_cons_succ])
    | (go_at_call 21; refine ((HV _ O.keep).out).mono ?_; rintro e W ⟨rfl, K⟩; replace O := O.keeps K; clear K))
  go_returns
  exact ⟨by rw [HF.out]; rfl, O.keep⟩

def LAYZ : Array Value := #[.slice none 0 0, .slice none 0 0, .int .i64 0, .int .i64 0, .int .i64 0, .int .i64 0, .map none, .map none, .map none, .map none]
set_option maxRecDepth 100000 in
set_option maxHeartbeats 1000000 in
theorem through_main (hS : SysIn w S A c R d) (h : validB S = true) (hn : n ≤ 40000) (hE : EvsAt w B n E) (hwf : ∀ i, i < n → (Lit.int .i64 (E i).a).wf = true) : Calls Try.prog 60 #[.agg (sysV S A c R d), .slice B n cb] w fun e w' => e = .returned (thrV (thr S E n)) ∧ Keeps w w' [] := by
  have O := Own.start w []
  have HV : ∀ u, Keeps w u [] → Hid (Calls Try.prog 21 #[.agg (sysV S A c R d)] u fun e w' => e = .returned (.int .i64 0) ∧ Keeps u w' []) := fun u k => Lib.hid (by have := valid_any (hS.kept k); rwa [validE_yes h] at this)
  have HF := Lib.hid (show thr S E n = match firstBad S E n with | some i => (0, (i : Int), 140) | none => ((stN E n).r, 0, 0) by simp [thr, h]; omega)
  have HH := Lib.hid ((validB_iff S).1 h).1
  have g0 : ¬ 40000 < (n : Int) := by omega
  have HE := Lib.hid hE
  have HWF := Lib.hid hwf
  clear h hS hE hwf
  go_enter Try.func60, Try.ntmps60
  go_wp2_with (first
    | go_big_skip
    | (refine own_box 2 (sysV S A c R d) O rfl rfl rfl rfl ?_; clear O; intro W a2 O; simp only [Act.put, List.setIfInBounds_toArray, List.set_cons_zero, List.set_cons_succ])
    | (refine own_load 11 0 O rfl rfl rfl rfl rfl Try.underlying27 rfl (by kernel_rfl) ?_; simp only [Act.put, List.setIfInBounds_toArray, List.set_cons_zero, List.set_cons_succ])
    | (go_at_call 21; refine ((HV _ O.keep).out).mono ?_; rintro e W ⟨rfl, K⟩; replace O := O.keeps K; clear K)
    | (refine own_load 19 0 O rfl rfl rfl rfl rfl Try.underlying27 rfl (by kernel_rfl) ?_; simp only [Act.put, List.setIfInBounds_toArray, List.set_cons_zero, List.set_cons_succ])
    | (refine at_dst 20 rfl ?_; have HW := O.keep.size; refine own_makeMap 20 O rfl rfl rfl ?_; clear O; intro W bh O Kx Mb Mi hb; have Mh := Mb; clear Mb Mi; have z_bh : w.heap.size ≤ bh := Nat.le_trans HW hb; clear HW Kx hb; simp only [Act.put, List.setIfInBounds_toArray, List.set_cons_zero, List.set_cons_succ])
    | (refine at_dst 21 rfl ?_; have HW := O.keep.size; refine own_makeMap 21 O rfl rfl rfl ?_; clear O; intro W bs O Kx Mb Mi hb; have n_bh_bs : bh ≠ bs := (by have := Mh.lt; omega); replace Mh := Mh.keeps Kx (by simp); have Ms := Mi; clear Mb Mi; have z_bs : w.heap.size ≤ bs := Nat.le_trans HW hb; clear HW Kx hb; simp only [Act.put, List.setIfInBounds_toArray, List.set_cons_zero, List.set_cons_succ])
    | (refine at_dst 22 rfl ?_; have HW := O.keep.size; refine own_makeMap 22 O rfl rfl rfl ?_; clear O; intro W bt O Kx Mb Mi hb; have n_bh_bt : bh ≠ bt := (by have := Mh.lt; omega); replace Mh := Mh.keeps Kx (by simp); have n_bs_bt : bs ≠ bt := (by have := Ms.lt; omega); replace Ms := Ms.keeps Kx (by simp); have Mt := Mi; clear Mb Mi; have z_bt : w.heap.size ≤ bt := Nat.le_trans HW hb; clear HW Kx hb; simp only [Act.put, List.setIfInBounds_toArray, List.set_cons_zero, List.set_cons_succ])
    | (refine at_dst 23 rfl ?_; have HW := O.keep.size; refine own_makeMap 23 O rfl rfl rfl ?_; clear O; intro W bu O Kx Mb Mi hb; have n_bh_bu : bh ≠ bu := (by have := Mh.lt; omega); replace Mh := Mh.keeps Kx (by simp); have n_bs_bu : bs ≠ bu := (by have := Ms.lt; omega); replace Ms := Ms.keeps Kx (by simp); have n_bt_bu : bt ≠ bu := (by have := Mt.lt; omega); replace Mt := Mt.keeps Kx (by simp); have Mu := Mb; clear Mb Mi; have z_bu : w.heap.size ≤ bu := Nat.le_trans HW hb; clear HW Kx hb; simp only [Act.put, List.setIfInBounds_toArray, List.set_cons_zero, List.set_cons_succ])
    | (refine wpList_const 24 (.agg (layV S A c R d 1 bh bs bt bu)) rfl rfl (fun _ => by kernel_rfl) ?_; simp only [Act.put, List.setIfInBounds_toArray, List.set_cons_zero, List.set_cons_succ])
    | (refine at_dst 8 rfl ?_; have HW := O.keep.size; refine own_allocK 8 LAYZ O rfl rfl rfl (fun _ => by kernel_rfl) ?_; clear O; intro W y O Kx hb; replace Mh := Mh.keeps Kx (by simp); replace Ms := Ms.keeps Kx (by simp); replace Mt := Mt.keeps Kx (by simp); replace Mu := Mu.keeps Kx (by simp); have z_y : w.heap.size ≤ y := Nat.le_trans HW hb; clear HW Kx hb; simp only [Act.put, List.setIfInBounds_toArray, List.set_cons_zero, List.set_cons_succ])
    | (have O1 := O; refine own_store_rowK 0 (.tmp 8) (.tmp 24) (cs' := layV S A c R d 1 bh bs bt bu) O rfl rfl rfl rfl rfl rfl (by kernel_rfl) rfl (layV_cell _ _ _ _ _ _ _ _ _ _) ?_; clear O; intro W O Kx; simp only [List.set_cons_zero] at O; replace Mh := Mh.keeps Kx (by simpa using (Mh.not_blk (O1.get 0 rfl)).symm); replace Ms := Ms.keeps Kx (by simpa using (Ms.not_blk (O1.get 0 rfl)).symm); replace Mt := Mt.keeps Kx (by simpa using (Mt.not_blk (O1.get 0 rfl)).symm); replace Mu := Mu.keeps Kx (by simpa using (Mu.not_blk (O1.get 0 rfl)).symm); clear Kx O1))
  have L0 : LayAt W S A c R d y bh bs bt bu 0 (stN E 0) := ⟨O.get 0 rfl, Mh, Ms, Mt, Mu, n_bh_bs, n_bh_bt, n_bh_bu, n_bs_bt, n_bs_bu, n_bt_bu⟩
  have K0 := O.keep
  have HZ := Lib.hid (show ∀ b ∈ [y, bh, bs, bt, bu], w.heap.size ≤ b by simp only [List.mem_cons, List.not_mem_nil, or_false]; rintro b (rfl | rfl | rfl | rfl | rfl) <;> assumption)
  clear O Mh Ms Mt Mu z_y z_bh z_bs z_bt z_bu n_bh_bs n_bh_bt n_bh_bu n_bs_bt n_bs_bu n_bt_bu
  go_loopw [27] (fun i wr => ∃ k : Nat, k ≤ n ∧ i = .int .i64 k ∧ Keeps w wr [] ∧ LayAt wr S A c R d y bh bs bt bu k (stN E k) ∧ ∀ j, j < k → okE S (stN E j) (E j) = true) (fun i _ => n - (intOf i).toNat)
  case atStart => exact ⟨0, by omega, rfl, K0, L0, fun j hj => by omega⟩
  case round =>
    obtain ⟨k, hk, rfl, K1, L1, hm⟩ := hrel
    have HM := Lib.hid hm
    have HL := Lib.hid L1
    have HK := Lib.hid K1
    clear hm L1 K1 L0 K0
    by_cases hlt : k < n
    · have g1 : ((k : Int)) < n := by omega
      have g2 : (0 : Int) ≤ k := by omega
      obtain ⟨ad, rfl, hc⟩ := EvsAt.row (u := w) HE.out hlt
      have HC := Lib.hid hc
      clear hc
      have O := Own.start wr []
      have HN := Lib.hid (fun u (ku : Keeps wr u []) => next_any HH.out (E k) (HL.out.kept ku) (HWF.out k hlt) (by omega) (fun j => by have := (stN_le E k).2.2 j; omega) (by have := stN_le E k; omega))
      cases hb : okE S (stN E k) (E k) with
      | false =>
        have HX : ∀ u, Keeps wr u [] → Hid (Calls Try.prog 92 #[.pointer (some ⟨y, 0, none⟩), .agg (evC (E k))] u fun x w' => x = .returned (.bool false) ∧ Keeps u w' [y, bh, bs, bt, bu]) := fun u ku => Lib.hid ((HN.out u ku).mono fun x w' ⟨h1, h2, h3⟩ => ⟨by rw [h1, hb], h2⟩)
        have HT := Lib.hid (firstBad_some HM.out hlt hb)
        clear hb
        go_wp2_with (first
          | go_big_skip
          | (refine wpList_load_at (cs := evC (E k)) 31 rfl rfl rfl rfl (HC.out [] _ (HK.out.trans O.keep (by simp)) (by simp)) Try.underlying37 rfl (by kernel_rfl) ?_; simp only [Act.put, List.setIfInBounds_toArray, List.set_cons_zero, List.set_cons_succ])
          | (refine own_alloc 10 (evC ⟨0, 0, 0, 0, false⟩) O rfl rfl rfl (fun _ => by kernel_rfl) ?_; clear O; intro W a10 O; simp only [Act.put, List.setIfInBounds_toArray, List.set_cons_zero, List.set_cons_succ])
          | (refine own_store_row 0 (.tmp 10) (.tmp 31) O rfl rfl rfl rfl rfl rfl (by kernel_rfl) (by rfl) (evC_cell _) ?_; clear O; intro W O; simp only [List.set_cons_zero] at O)
          | (refine own_load 32 0 O rfl rfl rfl rfl rfl Try.underlying37 rfl (by kernel_rfl) ?_; simp only [Act.put, List.setIfInBounds_toArray, List.set_cons_zero, List.set_cons_succ])
          | (go_at_call 92; refine ((HX _ O.keep).out).mono ?_; rintro e W ⟨rfl, KN⟩; have KW := Lib.hid (HK.out.trans ((O.keep.wide (L' := [y, bh, bs, bt, bu]) (by simp)).trans KN (fun b hb _ => hb)) (fun b hb hlt => absurd hlt (by have := HZ.out b hb; omega))); clear KN))
        go_returns
        exact ⟨by rw [HF.out, HT.out]; rfl, KW.out⟩
      | true =>
        have HX : ∀ u, Keeps wr u [] → Hid (Calls Try.prog 92 #[.pointer (some ⟨y, 0, none⟩), .agg (evC (E k))] u fun x w' => x = .returned (.bool true) ∧ Keeps u w' [y, bh, bs, bt, bu] ∧ LayAt w' S A c R d y bh bs bt bu (k + 1) (stN E (k + 1))) := fun u ku => Lib.hid ((HN.out u ku).mono fun x w' ⟨h1, h2, h3⟩ => ⟨by rw [h1, hb], h2, h3 hb⟩)
        have HM2 := Lib.hid (show ∀ j, j < k + 1 → okE S (stN E j) (E j) = true from fun j hj => if h : j = k then (by rw [h]; exact hb) else HM.out j (by omega))
        clear hb
        go_wp2_with (first
          | go_big_skip
          | (refine wpList_load_at (cs := evC (E k)) 31 rfl rfl rfl rfl (HC.out [] _ (HK.out.trans O.keep (by simp)) (by simp)) Try.underlying37 rfl (by kernel_rfl) ?_; simp only [Act.put, List.setIfInBounds_toArray, List.set_cons_zero, List.set_cons_succ])
          | (refine own_alloc 10 (evC ⟨0, 0, 0, 0, false⟩) O rfl rfl rfl (fun _ => by kernel_rfl) ?_; clear O; intro W a10 O; simp only [Act.put, List.setIfInBounds_toArray, List.set_cons_zero, List.set_cons_succ])
          | (refine own_store_row 0 (.tmp 10) (.tmp 31) O rfl rfl rfl rfl rfl rfl (by kernel_rfl) (by rfl) (evC_cell _) ?_; clear O; intro W O; simp only [List.set_cons_zero] at O)
          | (refine own_load 32 0 O rfl rfl rfl rfl rfl Try.underlying37 rfl (by kernel_rfl) ?_; simp only [Act.put, List.setIfInBounds_toArray, List.set_cons_zero, List.set_cons_succ])
          | (go_at_call 92; refine ((HX _ O.keep).out).mono ?_; rintro e W ⟨rfl, KN, LN⟩; have KW := Lib.hid (HK.out.trans ((O.keep.wide (L' := [y, bh, bs, bt, bu]) (by simp)).trans KN (fun b hb _ => hb)) (fun b hb hlt => absurd hlt (by have := HZ.out b hb; omega))); clear KN))
        go_roundw
        case rel => exact ⟨k + 1, by omega, by go_num, KW.out, LN, HM2.out⟩
        case measure => (simp [intOf] <;> omega)
    · obtain rfl : k = n := by omega
      have HT := Lib.hid (firstBad_none HM.out)
      have cy : wr.cell? ⟨y, 5, none⟩ = some (.int .i64 (stN E k).r) := HL.out.y.cell 5
      go_wp2
      go_returns
      exact ⟨by rw [HF.out, HT.out]; rfl, HK.out⟩
theorem through_any (hS : SysIn w S A c R d) (hE : EvsAt w B n E) (hwf : ∀ i, i < n → (Lit.int .i64 (E i).a).wf = true) : Calls Try.prog 60 #[.agg (sysV S A c R d), .slice B n cb] w fun e w' => e = .returned (thrV (thr S E n)) ∧ Keeps w w' [] := by
  cases h : validB S with
  | false => exact through_sys hS h
  | true =>
    by_cases hn : 40000 < n
    · exact through_long hS h hn
    · exact through_main hS h (by omega) hE hwf
end
end Go.Proofs.Ytakmcpadkanggaa

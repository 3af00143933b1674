/-
  What is asked of a list; who holds each lock, event by event (trace.asked, trace.holder).
-/
import Derived.Test.YtakmcpadkanggaaT15
namespace Go.Proofs.Ytakmcpadkanggaa
open Go.RowKit Go.Maps Go.Deep

/-- Who holds each lock behind k events: 0: nobody, else the runner and 1. -/
def whoF (E : Nat → Ev) : Nat → Int → Int
  | 0 => fun _ => 0
  | k + 1 => if (E k).op = 8 then updI (whoF E k) (E k).a ((E k).who + 1) else if (E k).op = 9 then updI (whoF E k) (E k).a 0 else whoF E k
theorem whoF_ref (E : Nat → Ev) (q : Int) : ∀ k, whoF E k q = refW E q k + 1
  | 0 => by simp [whoF, refW]
  | k + 1 => by
    have ih := whoF_ref E q k
    simp only [whoF, refW]
    by_cases h8 : (E k).op = 8
    · have h9 : ¬ (E k).op = 9 := by omega
      rw [if_pos h8]
      by_cases ha : (E k).a = q
      · rw [← ha, updI_same]; simp [h8]
      · rw [updI_other _ _ _ _ (fun h => ha h.symm), ih]; simp [h8, ha]
    · rw [if_neg h8]
      by_cases h9 : (E k).op = 9
      · rw [if_pos h9]
        by_cases ha : (E k).a = q
        · rw [← ha, updI_same]; simp [h9]
        · rw [updI_other _ _ _ _ (fun h => ha h.symm), ih]; simp [h8, ha]
      · rw [if_neg h9, ih]; simp [h8, h9]
def insB (n : Nat) (i : Int) : Bool := decide (0 ≤ i) && decide (i < n)
def askedR (S : Sys) (E : Nat → Ev) (n : Nat) (xs : List Int) : Int × Int := if (thr S E n).2.2 = 0 then (if xs.all (insB n) then ((thr S E n).1, 0) else (0, 1)) else (0, (thr S E n).2.2)
def askV (r : Int × Int) : Value := .tuple #[.int .i64 r.1, .int .i64 r.2]
section
variable {w : World} {S : Sys} {A : Option Addr} {c : Nat} {R : Option Addr} {d n : Nat} {E : Nat → Ev} {B : Option Addr} {cb : Nat}
set_option maxRecDepth 100000 in
theorem asked_any (hS : SysIn w S A c R d) (hE : EvsAt w B n E) (hwf : ∀ i, i < n → (Lit.int .i64 (E i).a).wf = true) (v : Value) (xs : List Int) (hx : IntL w v xs) (hl : xs.length ≤ 10) : Calls Try.prog 62 #[.agg (sysV S A c R d), .slice B n cb, v] w fun e w' => e = .returned (askV (askedR S E n xs)) ∧ Keeps w w' [] := by
  have O := Own.start w []
  obtain ⟨A', c', rfl, hx⟩ := hx
  have HT : ∀ u, Keeps w u [] → Hid (Calls Try.prog 60 #[.agg (sysV S A c R d), .slice B n cb] u fun e w' => e = .returned (.tuple #[.int .i64 (thr S E n).1, .int .i64 (thr S E n).2.1, .int .i64 (thr S E n).2.2]) ∧ Keeps u w' []) := fun u k => Lib.hid (through_any (hS.kept k) (hE.kept k) hwf)
  have HX := Lib.hid hx
  clear hx hS hE hwf
  generalize hm : xs.length = m at *
  by_cases h : (thr S E n).2.2 = 0
  · have HA := Lib.hid (show askedR S E n xs = if xs.all (insB n) then ((thr S E n).1, 0) else (0, 1) by simp [askedR, h])
    generalize askedR S E n xs = r at HA ⊢
    generalize thr S E n = x at *
    obtain ⟨x0, x1, x2⟩ := x
    simp only at *
    subst h
    have HMl := Lib.hid hm
    clear hm
    go_enter Try.func62, Try.ntmps62
    go_wp2_with (first
      | go_big_skip
      | (refine own_box 3 (sysV S A c R d) O rfl rfl rfl rfl ?_; clear O; intro W a3 O; simp only [Act.put, List.setIfInBounds_toArray, List.set_cons_zero, List.set_cons_succ])
      | (refine own_load 14 0 O rfl rfl rfl rfl rfl Try.underlying27 rfl (by kernel_rfl) ?_; simp only [Act.put, List.setIfInBounds_toArray, List.set_cons_zero, List.set_cons_succ])
      | (go_at_call 60; refine ((HT _ O.keep).out).mono ?_; rintro e W ⟨rfl, K⟩; replace O := O.keeps K; clear K))
    go_loopw [25] (fun i wr => ∃ k : Nat, k ≤ m ∧ i = .int .i64 k ∧ Keeps w wr [] ∧ ∀ j, j < k → insB n (xs.getD j 0) = true) (fun i _ => m - (intOf i).toNat)
    case atStart => exact ⟨0, by omega, rfl, O.keep, fun j hj => by omega⟩
    case round =>
      obtain ⟨k, hk, rfl, K, hmk⟩ := hrel
      have HK := Lib.hid hmk
      clear hmk O
      by_cases hlt : k < m
      · have g1 : ((k : Int)) < m := by omega
        have g0 : (0 : Int) ≤ k := by omega
        obtain ⟨ad, rfl, hb, hc⟩ := HX.out (by omega)
        have c1 : wr.cell? (ad.add k) = some (.int .i64 (xs.getD k 0)) := (K.cellAt (by rw [add_block]; exact hb) (by simp)).trans (hc k hlt)
        clear hc hb
        have HNo := Lib.hid (show insB n (xs.getD k 0) = false → r = (0, 1) from fun hb => by
          rw [HA.out, if_neg]
          intro hall
          have hmem : xs.getD k 0 ∈ xs := by
            have : k < xs.length := by have := HMl.out; omega
            simp [this]
          rw [List.all_eq_true.1 hall _ hmem] at hb
          cases hb)
        have HYes := Lib.hid (show insB n (xs.getD k 0) = true → ∀ j, j < k + 1 → insB n (xs.getD j 0) = true from fun hb j hj => if h : j = k then (by rw [h]; exact hb) else HK.out j (by omega))
        generalize xs.getD k 0 = y at c1 HNo HYes
        by_cases h0 : y < 0
        · have HF := Lib.hid (HNo.out (by simp [insB]; omega))
          go_wp2_with (first | go_big_skip)
          go_returns
          exact ⟨by rw [HF.out]; rfl, K⟩
        · by_cases h1 : (n : Int) ≤ y
          · have HF := Lib.hid (HNo.out (by simp [insB]; omega))
            go_wp2_with (first | go_big_skip)
            go_returns
            exact ⟨by rw [HF.out]; rfl, K⟩
          · have HG := Lib.hid (HYes.out (by simp [insB]; omega))
            go_wp2_with (first | go_big_skip)
            clear c1
            go_roundw
            case rel => exact ⟨k + 1, by omega, by go_num, K, HG.out⟩
            case measure => (simp [intOf] <;> omega)
      · obtain rfl : k = m := by omega
        have HF := Lib.hid (show r = (x0, 0) by
          rw [HA.out, if_pos]
          rw [List.all_eq_true]
          intro y hy
          obtain ⟨j, hj, rfl⟩ := List.getElem_of_mem hy
          have := HK.out j (by have := HMl.out; omega)
          simpa [hj] using this)
        go_wp2
        go_returns
        exact ⟨by rw [HF.out]; rfl, K⟩
  · have HF := Lib.hid (show askedR S E n xs = (0, (thr S E n).2.2) by simp [askedR, h])
    generalize askedR S E n xs = r at HF ⊢
    generalize thr S E n = x at *
    obtain ⟨x0, x1, x2⟩ := x
    simp only at *
    go_enter Try.func62, Try.ntmps62
    go_wp2_with (first
      | go_big_skip
      | (refine own_box 3 (sysV S A c R d) O rfl rfl rfl rfl ?_; clear O; intro W a3 O; simp only [Act.put, List.setIfInBounds_toArray, List.set_cons_zero, List.set_cons_succ])
      | (refine own_load 14 0 O rfl rfl rfl rfl rfl Try.underlying27 rfl (by kernel_rfl) ?_; simp only [Act.put, List.setIfInBounds_toArray, List.set_cons_zero, List.set_cons_succ])
      | (go_at_call 60; refine ((HT _ O.keep).out).mono ?_; rintro e W ⟨rfl, K⟩; replace O := O.keeps K; clear K))
    go_returns
    exact ⟨by rw [HF.out]; rfl, O.keep⟩

set_option maxRecDepth 100000 in
set_option maxHeartbeats 1000000 in
theorem holder_64 (Inv : Nat → World → Prop) (m : Nat) (c0 c1 c2 c3 : Value) (hE : ∀ k u, Inv k u → EvsAt u B m E) (hm : m ≤ 40000) (hwf : ∀ i, i < m → (Lit.int .i64 (E i).a).wf = true) (hwho : ∀ i, i < m → 0 ≤ (E i).who ∧ (E i).who ≤ 100000)
    (h0 : Inv 0 w) (hI1 : ∀ k u u', Inv k u → Keeps u u' [] → Inv k u') (hI2 : ∀ k u u' b mm f, w.heap.size ≤ b → Inv k u → MapI u b mm f → Keeps u u' [b] → Inv k u')
    (hC : ∀ k u b, k < m → Inv k u → MapI u b k (whoF E k) → Calls Try.prog 64 #[.int .i64 (k : Int), .map (some b), c0, c1, c2, c3] u fun e u' => e = .returned (.tuple #[]) ∧ Inv (k + 1) u' ∧ MapI u' b k (whoF E k) ∧ ∀ g cs, Blk u g 37 cs → Blk u' g 37 cs) :
    Calls Try.prog 63 #[.slice B m cb, .func (.func 64) #[] #[c0, c1, c2, c3]] w fun e w' => e = .returned (.tuple #[]) ∧ Inv m w' := by
  have O := Own.start w []
  have HE := Lib.hid hE
  have HWFs := Lib.hid hwf
  have HWHO := Lib.hid hwho
  have HI0 := Lib.hid h0
  replace hI1 := Lib.hid hI1
  replace hI2 := Lib.hid hI2
  replace hC := Lib.hid hC
  clear hE hwf hwho h0
  go_enter Try.func63, Try.ntmps63
  go_wp2_with (first
    | go_big_skip
    | (refine own_makeMap 7 O rfl rfl rfl ?_; clear O; intro W b O K _ M hz; have HZb := Lib.hid hz; clear hz; have HI := Lib.hid (hI1.out _ _ _ HI0.out K); have HM := Lib.hid M; clear M K O; simp only [Act.put, List.setIfInBounds_toArray, List.set_cons_zero, List.set_cons_succ]))
  go_loopw [10] (fun i wr => ∃ k : Nat, k ≤ m ∧ i = .int .i64 k ∧ Inv k wr ∧ MapI wr b k (whoF E k)) (fun i _ => m - (intOf i).toNat)
  case atStart => exact ⟨0, by omega, rfl, HI.out, HM.out⟩
  case round =>
    clear HI HM
    obtain ⟨k, hk, rfl, hi, hmp⟩ := hrel
    have HI := Lib.hid hi
    have HM := Lib.hid hmp
    clear hi hmp
    by_cases hlt : k < m
    · have g1 : ((k : Int)) < m := by omega
      have g0 : (0 : Int) ≤ k := by omega
      obtain ⟨ad, rfl, hc⟩ := EvsAt.row (u := wr) (HE.out k wr HI.out) hlt
      have HC := Lib.hid hc
      have HWF := Lib.hid (HWFs.out k hlt)
      have HWO := Lib.hid (HWHO.out k hlt)
      have HQ := Lib.hid (fun u (h1 : Inv k u) (h2 : MapI u b k (whoF E k)) => hC.out k u b hlt h1 h2)
      have HNX := Lib.hid (show whoF E (k + 1) = if (E k).op = 8 then updI (whoF E k) (E k).a ((E k).who + 1) else if (E k).op = 9 then updI (whoF E k) (E k).a 0 else whoF E k from rfl)
      have O := Own.start wr []
      clear hc
      generalize E k = ev at HC HWF HWO HNX
      obtain ⟨who, op, a, v, sh⟩ := ev
      simp only at HWF HWO HNX
      by_cases o8 : op = 8
      · subst o8
        have r1 : IntKind.i64.wrap (who + 1) = who + 1 := IntWalk.i64_in _ (by have := HWO.out; omega)
        have HN := Lib.hid (show whoF E (k + 1) = updI (whoF E k) a (who + 1) by rw [HNX.out]; simp)
        go_wp2_with (first
          | go_big_skip
          | (refine wpList_load_at (cs := evC ⟨who, 8, a, v, sh⟩) 14 rfl rfl rfl rfl (HC.out [] _ O.keep (by simp)) Try.underlying37 rfl (by kernel_rfl) ?_; simp only [Act.put, List.setIfInBounds_toArray, List.set_cons_zero, List.set_cons_succ])
          | (refine own_alloc 6 (evC ⟨0, 0, 0, 0, false⟩) O rfl rfl rfl (fun _ => by kernel_rfl) ?_; clear O; intro W a6 O; simp only [Act.put, List.setIfInBounds_toArray, List.set_cons_zero, List.set_cons_succ])
          | (refine own_store_row 0 (.tmp 6) (.tmp 14) O rfl rfl rfl rfl rfl rfl (by kernel_rfl) (by rfl) (evC_cell _) ?_; clear O; intro W O; simp only [List.set_cons_zero] at O)
          | (go_at_call 64; refine ((HQ.out _ (hI1.out _ _ _ HI.out O.keep) (HM.out.keeps O.keep (by simp)))).mono ?_; rintro e W2 ⟨rfl, q1, q2, q3⟩; have q4 := q3 _ _ (O.get 0 rfl); have c6 : ∀ i, W2.cell? ⟨a6, i, none⟩ = #[Value.int .i64 who, .int .i64 8, .int .i64 a, .int .i64 v, .bool sh][i]? := q4.cell; clear q3 q4; have HI2 := Lib.hid q1; have HM2 := Lib.hid q2; clear q1 q2)
          | (refine map_storeI HM2.out 117 Try.underlying117 rfl rfl rfl rfl HWF.out rfl (WalkArith.wf_i64 (by have := HWO.out; omega)) (by unfold maxLen; omega) ?_; intro u K3 M3; have HI3 := Lib.hid (hI2.out _ _ _ _ _ _ HZb.out HI2.out HM2.out K3); have HM3 := Lib.hid M3; clear K3 M3))
        clear c6
        go_roundw
        case rel => exact ⟨k + 1, by omega, by go_num, HI3.out, by rw [HN.out]; exact HM3.out⟩
        case measure => (simp [intOf] <;> omega)
      by_cases o9 : op = 9
      · subst o9
        have HN := Lib.hid (show whoF E (k + 1) = updI (whoF E k) a 0 by rw [HNX.out]; simp)
        go_wp2_with (first
          | go_big_skip
          | (refine wpList_load_at (cs := evC ⟨who, 9, a, v, sh⟩) 14 rfl rfl rfl rfl (HC.out [] _ O.keep (by simp)) Try.underlying37 rfl (by kernel_rfl) ?_; simp only [Act.put, List.setIfInBounds_toArray, List.set_cons_zero, List.set_cons_succ])
          | (refine own_alloc 6 (evC ⟨0, 0, 0, 0, false⟩) O rfl rfl rfl (fun _ => by kernel_rfl) ?_; clear O; intro W a6 O; simp only [Act.put, List.setIfInBounds_toArray, List.set_cons_zero, List.set_cons_succ])
          | (refine own_store_row 0 (.tmp 6) (.tmp 14) O rfl rfl rfl rfl rfl rfl (by kernel_rfl) (by rfl) (evC_cell _) ?_; clear O; intro W O; simp only [List.set_cons_zero] at O)
          | (go_at_call 64; refine ((HQ.out _ (hI1.out _ _ _ HI.out O.keep) (HM.out.keeps O.keep (by simp)))).mono ?_; rintro e W2 ⟨rfl, q1, q2, q3⟩; have q4 := q3 _ _ (O.get 0 rfl); have c6 : ∀ i, W2.cell? ⟨a6, i, none⟩ = #[Value.int .i64 who, .int .i64 9, .int .i64 a, .int .i64 v, .bool sh][i]? := q4.cell; clear q3 q4; have HI2 := Lib.hid q1; have HM2 := Lib.hid q2; clear q1 q2)
          | (refine map_storeI HM2.out 117 Try.underlying117 rfl rfl rfl rfl HWF.out rfl wf0 (by unfold maxLen; omega) ?_; intro u K3 M3; have HI3 := Lib.hid (hI2.out _ _ _ _ _ _ HZb.out HI2.out HM2.out K3); have HM3 := Lib.hid M3; clear K3 M3))
        clear c6
        go_roundw
        case rel => exact ⟨k + 1, by omega, by go_num, HI3.out, by rw [HN.out]; exact HM3.out⟩
        case measure => (simp [intOf] <;> omega)
      have HN := Lib.hid (show whoF E (k + 1) = whoF E k by rw [HNX.out]; simp [o8, o9])
      go_wp2_with (first
        | go_big_skip
        | (refine wpList_load_at (cs := evC ⟨who, op, a, v, sh⟩) 14 rfl rfl rfl rfl (HC.out [] _ O.keep (by simp)) Try.underlying37 rfl (by kernel_rfl) ?_; simp only [Act.put, List.setIfInBounds_toArray, List.set_cons_zero, List.set_cons_succ])
        | (refine own_alloc 6 (evC ⟨0, 0, 0, 0, false⟩) O rfl rfl rfl (fun _ => by kernel_rfl) ?_; clear O; intro W a6 O; simp only [Act.put, List.setIfInBounds_toArray, List.set_cons_zero, List.set_cons_succ])
        | (refine own_store_row 0 (.tmp 6) (.tmp 14) O rfl rfl rfl rfl rfl rfl (by kernel_rfl) (by rfl) (evC_cell _) ?_; clear O; intro W O; simp only [List.set_cons_zero] at O)
        | (go_at_call 64; refine ((HQ.out _ (hI1.out _ _ _ HI.out O.keep) (HM.out.keeps O.keep (by simp)))).mono ?_; rintro e W2 ⟨rfl, q1, q2, q3⟩; have q4 := q3 _ _ (O.get 0 rfl); have c6 : ∀ i, W2.cell? ⟨a6, i, none⟩ = #[Value.int .i64 who, .int .i64 op, .int .i64 a, .int .i64 v, .bool sh][i]? := q4.cell; clear q3 q4; have HI2 := Lib.hid q1; have HM2 := Lib.hid q2; clear q1 q2))
      clear c6
      go_roundw
      case rel => exact ⟨k + 1, by omega, by go_num, HI2.out, by rw [HN.out]; exact HM2.out.mono (by omega)⟩
      case measure => (simp [intOf] <;> omega)
    · obtain rfl : k = m := by omega
      go_wp2
      go_returns
      exact ⟨rfl, HI.out⟩

set_option maxRecDepth 100000 in
set_option maxHeartbeats 1000000 in
theorem holder_67 (Inv : Nat → World → Prop) (m : Nat) (c0 c1 c2 c3 : Value) (hE : ∀ k u, Inv k u → EvsAt u B m E) (hm : m ≤ 40000) (hwf : ∀ i, i < m → (Lit.int .i64 (E i).a).wf = true) (hwho : ∀ i, i < m → 0 ≤ (E i).who ∧ (E i).who ≤ 100000)
    (h0 : Inv 0 w) (hI1 : ∀ k u u', Inv k u → Keeps u u' [] → Inv k u') (hI2 : ∀ k u u' b mm f, w.heap.size ≤ b → Inv k u → MapI u b mm f → Keeps u u' [b] → Inv k u')
    (hC : ∀ k u b, k < m → Inv k u → MapI u b k (whoF E k) → Calls Try.prog 67 #[.int .i64 (k : Int), .map (some b), c0, c1, c2, c3] u fun e u' => e = .returned (.tuple #[]) ∧ Inv (k + 1) u' ∧ MapI u' b k (whoF E k) ∧ ∀ g cs, Blk u g 37 cs → Blk u' g 37 cs) :
    Calls Try.prog 63 #[.slice B m cb, .func (.func 67) #[] #[c0, c1, c2, c3]] w fun e w' => e = .returned (.tuple #[]) ∧ Inv m w' := by
  have O := Own.start w []
  have HE := Lib.hid hE
  have HWFs := Lib.hid hwf
  have HWHO := Lib.hid hwho
  have HI0 := Lib.hid h0
  replace hI1 := Lib.hid hI1
  replace hI2 := Lib.hid hI2
  replace hC := Lib.hid hC
  clear hE hwf hwho h0
  go_enter Try.func63, Try.ntmps63
  go_wp2_with (first
    | go_big_skip
    | (refine own_makeMap 7 O rfl rfl rfl ?_; clear O; intro W b O K _ M hz; have HZb := Lib.hid hz; clear hz; have HI := Lib.hid (hI1.out _ _ _ HI0.out K); have HM := Lib.hid M; clear M K O; simp only [Act.put, List.setIfInBounds_toArray, List.set_cons_zero, List.set_cons_succ]))
  go_loopw [10] (fun i wr => ∃ k : Nat, k ≤ m ∧ i = .int .i64 k ∧ Inv k wr ∧ MapI wr b k (whoF E k)) (fun i _ => m - (intOf i).toNat)
  case atStart => exact ⟨0, by omega, rfl, HI.out, HM.out⟩
  case round =>
    clear HI HM
    obtain ⟨k, hk, rfl, hi, hmp⟩ := hrel
    have HI := Lib.hid hi
    have HM := Lib.hid hmp
    clear hi hmp
    by_cases hlt : k < m
    · have g1 : ((k : Int)) < m := by omega
      have g0 : (0 : Int) ≤ k := by omega
      obtain ⟨ad, rfl, hc⟩ := EvsAt.row (u := wr) (HE.out k wr HI.out) hlt
      have HC := Lib.hid hc
      have HWF := Lib.hid (HWFs.out k hlt)
      have HWO := Lib.hid (HWHO.out k hlt)
      have HQ := Lib.hid (fun u (h1 : Inv k u) (h2 : MapI u b k (whoF E k)) => hC.out k u b hlt h1 h2)
      have HNX := Lib.hid (show whoF E (k + 1) = if (E k).op = 8 then updI (whoF E k) (E k).a ((E k).who + 1) else if (E k).op = 9 then updI (whoF E k) (E k).a 0 else whoF E k from rfl)
      have O := Own.start wr []
      clear hc
      generalize E k = ev at HC HWF HWO HNX
      obtain ⟨who, op, a, v, sh⟩ := ev
      simp only at HWF HWO HNX
      by_cases o8 : op = 8
      · subst o8
        have r1 : IntKind.i64.wrap (who + 1) = who + 1 := IntWalk.i64_in _ (by have := HWO.out; omega)
        have HN := Lib.hid (show whoF E (k + 1) = updI (whoF E k) a (who + 1) by rw [HNX.out]; simp)
        go_wp2_with (first
          | go_big_skip
          | (refine wpList_load_at (cs := evC ⟨who, 8, a, v, sh⟩) 14 rfl rfl rfl rfl (HC.out [] _ O.keep (by simp)) Try.underlying37 rfl (by kernel_rfl) ?_; simp only [Act.put, List.setIfInBounds_toArray, List.set_cons_zero, List.set_cons_succ])
          | (refine own_alloc 6 (evC ⟨0, 0, 0, 0, false⟩) O rfl rfl rfl (fun _ => by kernel_rfl) ?_; clear O; intro W a6 O; simp only [Act.put, List.setIfInBounds_toArray, List.set_cons_zero, List.set_cons_succ])
          | (refine own_store_row 0 (.tmp 6) (.tmp 14) O rfl rfl rfl rfl rfl rfl (by kernel_rfl) (by rfl) (evC_cell _) ?_; clear O; intro W O; simp only [List.set_cons_zero] at O)
          | (go_at_call 67; refine ((HQ.out _ (hI1.out _ _ _ HI.out O.keep) (HM.out.keeps O.keep (by simp)))).mono ?_; rintro e W2 ⟨rfl, q1, q2, q3⟩; have q4 := q3 _ _ (O.get 0 rfl); have c6 : ∀ i, W2.cell? ⟨a6, i, none⟩ = #[Value.int .i64 who, .int .i64 8, .int .i64 a, .int .i64 v, .bool sh][i]? := q4.cell; clear q3 q4; have HI2 := Lib.hid q1; have HM2 := Lib.hid q2; clear q1 q2)
          | (refine map_storeI HM2.out 117 Try.underlying117 rfl rfl rfl rfl HWF.out rfl (WalkArith.wf_i64 (by have := HWO.out; omega)) (by unfold maxLen; omega) ?_; intro u K3 M3; have HI3 := Lib.hid (hI2.out _ _ _ _ _ _ HZb.out HI2.out HM2.out K3); have HM3 := Lib.hid M3; clear K3 M3))
        clear c6
        go_roundw
        case rel => exact ⟨k + 1, by omega, by go_num, HI3.out, by rw [HN.out]; exact HM3.out⟩
        case measure => (simp [intOf] <;> omega)
      by_cases o9 : op = 9
      · subst o9
        have HN := Lib.hid (show whoF E (k + 1) = updI (whoF E k) a 0 by rw [HNX.out]; simp)
        go_wp2_with (first
          | go_big_skip
          | (refine wpList_load_at (cs := evC ⟨who, 9, a, v, sh⟩) 14 rfl rfl rfl rfl (HC.out [] _ O.keep (by simp)) Try.underlying37 rfl (by kernel_rfl) ?_; simp only [Act.put, List.setIfInBounds_toArray, List.set_cons_zero, List.set_cons_succ])
          | (refine own_alloc 6 (evC ⟨0, 0, 0, 0, false⟩) O rfl rfl rfl (fun _ => by kernel_rfl) ?_; clear O; intro W a6 O; simp only [Act.put, List.setIfInBounds_toArray, List.set_cons_zero, List.set_cons_succ])
          | (refine own_store_row 0 (.tmp 6) (.tmp 14) O rfl rfl rfl rfl rfl rfl (by kernel_rfl) (by rfl) (evC_cell _) ?_; clear O; intro W O; simp only [List.set_cons_zero] at O)
          | (go_at_call 67; refine ((HQ.out _ (hI1.out _ _ _ HI.out O.keep) (HM.out.keeps O.keep (by simp)))).mono ?_; rintro e W2 ⟨rfl, q1, q2, q3⟩; have q4 := q3 _ _ (O.get 0 rfl); have c6 : ∀ i, W2.cell? ⟨a6, i, none⟩ = #[Value.int .i64 who, .int .i64 9, .int .i64 a, .int .i64 v, .bool sh][i]? := q4.cell; clear q3 q4; have HI2 := Lib.hid q1; have HM2 := Lib.hid q2; clear q1 q2)
          | (refine map_storeI HM2.out 117 Try.underlying117 rfl rfl rfl rfl HWF.out rfl wf0 (by unfold maxLen; omega) ?_; intro u K3 M3; have HI3 := Lib.hid (hI2.out _ _ _ _ _ _ HZb.out HI2.out HM2.out K3); have HM3 := Lib.hid M3; clear K3 M3))
        clear c6
        go_roundw
        case rel => exact ⟨k + 1, by omega, by go_num, HI3.out, by rw [HN.out]; exact HM3.out⟩
        case measure => (simp [intOf] <;> omega)
      have HN := Lib.hid (show whoF E (k + 1) = whoF E k by rw [HNX.out]; simp [o8, o9])
      go_wp2_with (first
        | go_big_skip
        | (refine wpList_load_at (cs := evC ⟨who, op, a, v, sh⟩) 14 rfl rfl rfl rfl (HC.out [] _ O.keep (by simp)) Try.underlying37 rfl (by kernel_rfl) ?_; simp only [Act.put, List.setIfInBounds_toArray, List.set_cons_zero, List.set_cons_succ])
        | (refine own_alloc 6 (evC ⟨0, 0, 0, 0, false⟩) O rfl rfl rfl (fun _ => by kernel_rfl) ?_; clear O; intro W a6 O; simp only [Act.put, List.setIfInBounds_toArray, List.set_cons_zero, List.set_cons_succ])
        | (refine own_store_row 0 (.tmp 6) (.tmp 14) O rfl rfl rfl rfl rfl rfl (by kernel_rfl) (by rfl) (evC_cell _) ?_; clear O; intro W O; simp only [List.set_cons_zero] at O)
        | (go_at_call 67; refine ((HQ.out _ (hI1.out _ _ _ HI.out O.keep) (HM.out.keeps O.keep (by simp)))).mono ?_; rintro e W2 ⟨rfl, q1, q2, q3⟩; have q4 := q3 _ _ (O.get 0 rfl); have c6 : ∀ i, W2.cell? ⟨a6, i, none⟩ = #[Value.int .i64 who, .int .i64 op, .int .i64 a, .int .i64 v, .bool sh][i]? := q4.cell; clear q3 q4; have HI2 := Lib.hid q1; have HM2 := Lib.hid q2; clear q1 q2))
      clear c6
      go_roundw
      case rel => exact ⟨k + 1, by omega, by go_num, HI2.out, by rw [HN.out]; exact HM2.out.mono (by omega)⟩
      case measure => (simp [intOf] <;> omega)
    · obtain rfl : k = m := by omega
      go_wp2
      go_returns
      exact ⟨rfl, HI.out⟩
end
end Go.Proofs.Ytakmcpadkanggaa

/-
  Which system may be: sched.Valid.
-/
import Derived.Test.YtakmcpadkanggaaT3
namespace Go.Proofs.Ytakmcpadkanggaa
open Go.RowKit

/-- A row of cells at any address, loaded whole. -/
theorem wpList_load_at {P : Program} {ops : Array Oper} {rest : List Oper} {o : Oper} {a : Act} {w : World} {Q : Exit → Act → World → Prop} {ty : TypeId} {ad : Addr} {cs : Array Value} {x : Operand} {d : TypeDesc} (n : Nat)
    (_hd : o.dst = some n) (hgd : o.guard = none) (ho : o.op = .load ty x) (hx : a.eval x = .pointer (some ad)) (hc : ∀ j, j < cs.size → w.cell? (ad.add j) = cs[j]?)
    (hu : P.underlying ty = some d) (hd : d.isRow = true) (hi : (P.info? ty).map (·.size) = some cs.size)
    (h : wpList P ops Q rest (a.put o.dst (.agg cs)) w) : wpList P ops Q (o :: rest) a w := by
  have hl : (loadCells ad cs.size).run P w = .ok cs w := by
    have := run_loadCells_list (P := P) w ad cs.toList (fun j v hv => by
      have hj : j < cs.size := by
        rcases Nat.lt_or_ge j cs.size with h1 | h1
        · exact h1
        · rw [List.getElem?_eq_none (by simpa using h1)] at hv; cases hv
      rw [hc j hj, ← hv, Array.getElem?_toList])
    simpa using this
  have hr : (loadVar ty ad).run P w = .ok (.agg cs) w := by
    cases hq : P.info? ty with
    | none => simp [hq] at hi
    | some i =>
      have hs : i.size = cs.size := by simpa [hq] using hi
      have hagg : (isAgg ty).run P w = .ok true w := by
        unfold isAgg
        rw [Sem.run_bind, run_underlying hu w]
        cases d <;> simp_all
      simp [loadVar, Sem.run_bind, hagg, sizeOf, typeInfo, hq, hs, hl]
  refine wpList_plain hgd fun _ hK => ?_
  unfold Oper.wp execOp
  simp only [ho, hx, Instr.loadAt, Instr.sureAddr, Sem.run_bind, Sem.run_pure, Result.andThen_ok, hr]
  exact hK _ _ h

theorem inst_cell (f : Nat → Int) : ∀ v ∈ (inst f).toList, v.oneCell' = true := by
  intro v hv
  simp only [inst, List.mem_cons, List.not_mem_nil, or_false] at hv
  rcases hv with rfl | rfl | rfl | rfl <;> rfl
def shB (n : Int) : Bool := decide (0 ≤ n) && decide (n ≤ 64)
def roomB (n : Int) : Bool := decide (1 ≤ n) && decide (n ≤ 1024)
def headB (S : Sys) : Bool := decide (1 ≤ S.np) && (decide (S.np ≤ 64) && (decide (S.nr ≤ 64) && (shB S.gr && (shB S.lk && shB S.ce))))
def progB (S : Sys) (p : Nat) : Bool := decide (S.lp p ≤ 256) && (List.range (S.lp p)).all fun i => rightS S p (S.q p i)
/-- May a system be? -/
def validB (S : Sys) : Bool := headB S && ((List.range S.nr).all (fun i => roomB (S.rm i)) && (List.range S.np).all (progB S))
theorem validB_iff (S : Sys) : validB S = true ↔ headB S = true ∧ (∀ i, i < S.nr → roomB (S.rm i) = true) ∧ ∀ p, p < S.np → S.lp p ≤ 256 ∧ ∀ i, i < S.lp p → rightS S p (S.q p i) = true := by
  simp [validB, progB, List.all_eq_true]
theorem headB_iff (S : Sys) : headB S = true ↔ 1 ≤ S.np ∧ S.np ≤ 64 ∧ S.nr ≤ 64 ∧ shB S.gr = true ∧ shB S.lk = true ∧ shB S.ce = true := by
  simp [headB]
theorem validB_bad {S : Sys} (h : headB S = false) : validB S = false := by simp [validB, h]
theorem validB_room {S : Sys} (i : Nat) (hi : i < S.nr) (h : roomB (S.rm i) = false) : validB S = false := by
  cases hv : validB S with
  | false => rfl
  | true => rw [((validB_iff S).1 hv).2.1 i hi] at h; cases h
theorem validB_long {S : Sys} (p : Nat) (hp : p < S.np) (h : 256 < S.lp p) : validB S = false := by
  cases hv : validB S with
  | false => rfl
  | true => have := (((validB_iff S).1 hv).2.2 p hp).1; omega
theorem validB_inst {S : Sys} (p i : Nat) (hp : p < S.np) (hi : i < S.lp p) (h : rightS S p (S.q p i) = false) : validB S = false := by
  cases hv : validB S with
  | false => rfl
  | true => rw [(((validB_iff S).1 hv).2.2 p hp).2 i hi] at h; cases h
def validE (S : Sys) : Int := if validB S then 0 else 130
theorem validE_no {S : Sys} (h : validB S = false) : validE S = 130 := by simp [validE, h]
theorem validE_yes {S : Sys} (h : validB S = true) : validE S = 0 := by simp [validE, h]
theorem shared_yes {n : Int} (h : shB n = true) (w : World) : Hid (Calls Try.prog 52 #[.int .i64 n] w fun e w' => e = .returned (.bool true) ∧ w = w') := by
  have := shared_any n w
  unfold shB at h
  rw [h] at this
  exact Lib.hid this
theorem shared_no {n : Int} (h : shB n = false) (w : World) : Hid (Calls Try.prog 52 #[.int .i64 n] w fun e w' => e = .returned (.bool false) ∧ w = w') := by
  have := shared_any n w
  unfold shB at h
  rw [h] at this
  exact Lib.hid this

section
variable {S : Sys} {A : Option Addr} {c : Nat} {R : Option Addr} {d : Nat} {w : World}

set_option maxRecDepth 100000 in
theorem vhead_np0 (h0 : S.np < 1) : Calls Try.prog 21 #[.agg (sysV S A c R d)] w fun e w' => e = .returned (.int .i64 130) ∧ Keeps w w' [] := by
  have O := Own.start w []
  unfold sysV
  have g0 : (S.np : Int) < 1 := by omega
  clear h0
  go_enter Try.func21, Try.ntmps21
  go_wp2_with (first
    | go_big_skip
    | (refine own_box 1 _ O rfl rfl rfl rfl ?_; clear O; intro W a1 O; simp only [Act.put, List.setIfInBounds_toArray, List.set_cons_zero, List.set_cons_succ]; have c1 := (O.get 0 rfl).cell))
  go_ret
  exact ⟨rfl, O.keep⟩

set_option maxRecDepth 100000 in
theorem vhead_np1 (h0 : 64 < S.np) : Calls Try.prog 21 #[.agg (sysV S A c R d)] w fun e w' => e = .returned (.int .i64 130) ∧ Keeps w w' [] := by
  have O := Own.start w []
  unfold sysV
  have g0 : ¬ (S.np : Int) < 1 := by omega
  have g1 : 64 < (S.np : Int) := by omega
  clear h0
  go_enter Try.func21, Try.ntmps21
  go_wp2_with (first
    | go_big_skip
    | (refine own_box 1 _ O rfl rfl rfl rfl ?_; clear O; intro W a1 O; simp only [Act.put, List.setIfInBounds_toArray, List.set_cons_zero, List.set_cons_succ]; have c1 := (O.get 0 rfl).cell))
  go_ret
  exact ⟨rfl, O.keep⟩

set_option maxRecDepth 100000 in
theorem vhead_nr (h0 : 1 ≤ S.np) (h1 : S.np ≤ 64) (nr_ : shB (S.nr : Int) = false) : Calls Try.prog 21 #[.agg (sysV S A c R d)] w fun e w' => e = .returned (.int .i64 130) ∧ Keeps w w' [] := by
  have O := Own.start w []
  unfold sysV
  have g0 : ¬ (S.np : Int) < 1 := by omega
  have g1 : ¬ 64 < (S.np : Int) := by omega
  have Hnr := fun w => shared_no (n := (S.nr : Int)) nr_ w
  clear h0 h1 nr_
  go_enter Try.func21, Try.ntmps21
  go_wp2_with (first
    | go_big_skip
    | (refine own_box 1 _ O rfl rfl rfl rfl ?_; clear O; intro W a1 O; simp only [Act.put, List.setIfInBounds_toArray, List.set_cons_zero, List.set_cons_succ]; have c1 := (O.get 0 rfl).cell)
    | (go_at_call 52; with_reducible (refine ((Hnr _).out).mono ?_); rintro e W ⟨rfl, rfl⟩))
  go_ret
  exact ⟨rfl, O.keep⟩

set_option maxRecDepth 100000 in
theorem vhead_gr (h0 : 1 ≤ S.np) (h1 : S.np ≤ 64) (nr_ : shB (S.nr : Int) = true) (gr_ : shB S.gr = false) : Calls Try.prog 21 #[.agg (sysV S A c R d)] w fun e w' => e = .returned (.int .i64 130) ∧ Keeps w w' [] := by
  have O := Own.start w []
  unfold sysV
  have g0 : ¬ (S.np : Int) < 1 := by omega
  have g1 : ¬ 64 < (S.np : Int) := by omega
  have Hnr := fun w => shared_yes (n := (S.nr : Int)) nr_ w
  have Hgr := fun w => shared_no (n := S.gr) gr_ w
  clear h0 h1 nr_ gr_
  go_enter Try.func21, Try.ntmps21
  go_wp2_with (first
    | go_big_skip
    | (refine own_box 1 _ O rfl rfl rfl rfl ?_; clear O; intro W a1 O; simp only [Act.put, List.setIfInBounds_toArray, List.set_cons_zero, List.set_cons_succ]; have c1 := (O.get 0 rfl).cell)
    | (go_at_call 52; with_reducible (refine ((Hnr _).out).mono ?_); rintro e W ⟨rfl, rfl⟩)
    | (go_at_call 52; with_reducible (refine ((Hgr _).out).mono ?_); rintro e W ⟨rfl, rfl⟩))
  go_ret
  exact ⟨rfl, O.keep⟩

set_option maxRecDepth 100000 in
theorem vhead_lk (h0 : 1 ≤ S.np) (h1 : S.np ≤ 64) (nr_ : shB (S.nr : Int) = true) (gr_ : shB S.gr = true) (lk_ : shB S.lk = false) : Calls Try.prog 21 #[.agg (sysV S A c R d)] w fun e w' => e = .returned (.int .i64 130) ∧ Keeps w w' [] := by
  have O := Own.start w []
  unfold sysV
  have g0 : ¬ (S.np : Int) < 1 := by omega
  have g1 : ¬ 64 < (S.np : Int) := by omega
  have Hnr := fun w => shared_yes (n := (S.nr : Int)) nr_ w
  have Hgr := fun w => shared_yes (n := S.gr) gr_ w
  have Hlk := fun w => shared_no (n := S.lk) lk_ w
  clear h0 h1 nr_ gr_ lk_
  go_enter Try.func21, Try.ntmps21
  go_wp2_with (first
    | go_big_skip
    | (refine own_box 1 _ O rfl rfl rfl rfl ?_; clear O; intro W a1 O; simp only [Act.put, List.setIfInBounds_toArray, List.set_cons_zero, List.set_cons_succ]; have c1 := (O.get 0 rfl).cell)
    | (go_at_call 52; with_reducible (refine ((Hnr _).out).mono ?_); rintro e W ⟨rfl, rfl⟩)
    | (go_at_call 52; with_reducible (refine ((Hgr _).out).mono ?_); rintro e W ⟨rfl, rfl⟩)
    | (go_at_call 52; with_reducible (refine ((Hlk _).out).mono ?_); rintro e W ⟨rfl, rfl⟩))
  go_ret
  exact ⟨rfl, O.keep⟩

set_option maxRecDepth 100000 in
theorem vhead_ce (h0 : 1 ≤ S.np) (h1 : S.np ≤ 64) (nr_ : shB (S.nr : Int) = true) (gr_ : shB S.gr = true) (lk_ : shB S.lk = true) (ce_ : shB S.ce = false) : Calls Try.prog 21 #[.agg (sysV S A c R d)] w fun e w' => e = .returned (.int .i64 130) ∧ Keeps w w' [] := by
  have O := Own.start w []
  unfold sysV
  have g0 : ¬ (S.np : Int) < 1 := by omega
  have g1 : ¬ 64 < (S.np : Int) := by omega
  have Hnr := fun w => shared_yes (n := (S.nr : Int)) nr_ w
  have Hgr := fun w => shared_yes (n := S.gr) gr_ w
  have Hlk := fun w => shared_yes (n := S.lk) lk_ w
  have Hce := fun w => shared_no (n := S.ce) ce_ w
  clear h0 h1 nr_ gr_ lk_ ce_
  go_enter Try.func21, Try.ntmps21
  go_wp2_with (first
    | go_big_skip
    | (refine own_box 1 _ O rfl rfl rfl rfl ?_; clear O; intro W a1 O; simp only [Act.put, List.setIfInBounds_toArray, List.set_cons_zero, List.set_cons_succ]; have c1 := (O.get 0 rfl).cell)
    | (go_at_call 52; with_reducible (refine ((Hnr _).out).mono ?_); rintro e W ⟨rfl, rfl⟩)
    | (go_at_call 52; with_reducible (refine ((Hgr _).out).mono ?_); rintro e W ⟨rfl, rfl⟩)
    | (go_at_call 52; with_reducible (refine ((Hlk _).out).mono ?_); rintro e W ⟨rfl, rfl⟩)
    | (go_at_call 52; with_reducible (refine ((Hce _).out).mono ?_); rintro e W ⟨rfl, rfl⟩))
  go_ret
  exact ⟨rfl, O.keep⟩

set_option maxRecDepth 100000 in
set_option maxHeartbeats 4000000 in
theorem vbody (hh : headB S = true) (hS : SysIn w S A c R d) : Calls Try.prog 21 #[.agg (sysV S A c R d)] w fun e w' => e = .returned (.int .i64 (validE S)) ∧ Keeps w w' [] := by
  have O := Own.start w []
  obtain ⟨h0, h1, h2, h3, h4, h5⟩ := (headB_iff S).1 hh
  have HR := Lib.hid (fun (p : Nat) (hp : p < S.np) (hl : S.lp p ≤ 256) (i : Nat) (u : World) (g : Nat) (hB : Blk u g 27 (sysV S A c R d)) (k : Keeps w u []) => right_any (S.q p i) hB (hS.kept k) hp hl)
  have HP := Lib.hid hS.progs
  have HI := Lib.hid hS.rooms
  have HH := Lib.hid hh
  clear hS hh
  have g0 : ¬ (S.np : Int) < 1 := by omega
  have g1 : ¬ 64 < (S.np : Int) := by omega
  have Hnr := fun w => shared_yes (n := (S.nr : Int)) (by simp [shB]; omega) w
  have Hgr := fun w => shared_yes h3 w
  have Hlk := fun w => shared_yes h4 w
  have Hce := fun w => shared_yes h5 w
  clear h3 h4 h5
  unfold sysV at HR ⊢
  go_enter Try.func21, Try.ntmps21
  go_wp2_with (first
    | go_big_skip
    | (refine own_box 1 _ O rfl rfl rfl rfl ?_; clear O; intro W a1 O; simp only [Act.put, List.setIfInBounds_toArray, List.set_cons_zero, List.set_cons_succ]; have c1 := (O.get 0 rfl).cell)
    | (go_at_call 52; with_reducible (refine ((Hnr _).out).mono ?_); rintro e W ⟨rfl, rfl⟩)
    | (go_at_call 52; with_reducible (refine ((Hgr _).out).mono ?_); rintro e W ⟨rfl, rfl⟩)
    | (go_at_call 52; with_reducible (refine ((Hlk _).out).mono ?_); rintro e W ⟨rfl, rfl⟩)
    | (go_at_call 52; with_reducible (refine ((Hce _).out).mono ?_); rintro e W ⟨rfl, rfl⟩))
  clear c1
  go_loopw [52] (fun i wr => ∃ k : Nat, k ≤ S.nr ∧ i = .int .i64 k ∧ Own w wr [] [(a1, 27, #[.slice A S.np c, .slice R S.nr d, .int .i64 S.gr, .int .i64 S.lk, .int .i64 S.ce])] ∧ ∀ j, j < k → roomB (S.rm j) = true) (fun i _ => S.nr - (intOf i).toNat)
  case atStart => exact ⟨0, by omega, rfl, O, fun j hj => by omega⟩
  case round =>
    obtain ⟨k, hk, rfl, O, hm⟩ := hrel
    have HM := Lib.hid hm
    clear hm
    by_cases hlt : k < S.nr
    · have g2 : ((k : Int)) < S.nr := by omega
      have g3 : (0 : Int) ≤ k := by omega
      obtain ⟨ad, rfl, hb, hc⟩ := HI.out (by omega)
      have ck : wr.cell? (ad.add k) = some (.int .i64 (S.rm k)) := (O.keep.cellAt (by rw [add_block]; exact hb) (by simp)).trans (hc k hlt)
      clear hc hb
      generalize hx : S.rm k = x at ck
      by_cases hr1 : x < 1
      · have HF := Lib.hid (validE_no (validB_room k hlt (by rw [hx]; simp [roomB]; omega)))
        clear hx
        go_wp2
        go_ret
        exact ⟨by rw [HF.out]; rfl, O.keep⟩
      · by_cases hr2 : 1024 < x
        · have HF := Lib.hid (validE_no (validB_room k hlt (by rw [hx]; simp [roomB]; omega)))
          clear hx
          go_wp2
          go_ret
          exact ⟨by rw [HF.out]; rfl, O.keep⟩
        · have HM2 := Lib.hid (show ∀ j, j < k + 1 → roomB (S.rm j) = true from fun j hj => if h : j = k then (by rw [h, hx]; simp [roomB]; omega) else HM.out j (by omega))
          clear hx
          go_wp2
          clear ck hr1 hr2
          go_roundw
          case rel => exact ⟨k + 1, by omega, by go_num, O, HM2.out⟩
          case measure => (simp [intOf] <;> omega)
    · obtain rfl : k = S.nr := by omega
      have c1 := (O.get 0 rfl).cell
      go_wp2
      clear c1
      go_loopw [66] (fun i wr => ∃ p : Nat, p ≤ S.np ∧ i = .int .i64 p ∧ Own w wr [] [(a1, 27, #[.slice A S.np c, .slice R S.nr d, .int .i64 S.gr, .int .i64 S.lk, .int .i64 S.ce])] ∧ ∀ j, j < p → progB S j = true) (fun i _ => S.np - (intOf i).toNat)
      case atStart => exact ⟨0, by omega, rfl, O, fun j hj => by omega⟩
      case round =>
        obtain ⟨p, hp, rfl, O, hm⟩ := hrel
        have HN := Lib.hid hm
        clear hm
        by_cases hlt : p < S.np
        · have g2 : ((p : Int)) < S.np := by omega
          have g3 : (0 : Int) ≤ p := by omega
          obtain ⟨ad, rfl, hb, hc⟩ := HP.out (by omega)
          obtain ⟨B, cb, hcell, hle, hmax, hI⟩ := hc p hlt
          have cp : wr.cell? (ad.add p) = some (.slice B (S.lp p) cb) := (O.keep.cellAt (by rw [add_block]; exact hb) (by simp)).trans hcell
          have HI2 := Lib.hid hI
          clear hc hb hcell hI
          by_cases hl : 256 < S.lp p
          · have HF := Lib.hid (validE_no (validB_long p hlt hl))
            have g4 : 256 < (S.lp p : Int) := by omega
            go_wp2
            go_ret
            exact ⟨by rw [HF.out]; rfl, O.keep⟩
          · have g4 : ¬ 256 < (S.lp p : Int) := by omega
            have HR2 := Lib.hid (HR.out p hlt (by omega))
            generalize hn : S.lp p = n at cp g4
            have HNn := Lib.hid hn
            go_wp2
            clear cp
            go_loopw [76] (fun i wr => ∃ j : Nat, j ≤ n ∧ i = .int .i64 j ∧ Own w wr [] [(a1, 27, #[.slice (some ad) S.np c, .slice R S.nr d, .int .i64 S.gr, .int .i64 S.lk, .int .i64 S.ce])] ∧ ∀ i, i < j → rightS S p (S.q p i) = true) (fun i _ => n - (intOf i).toNat)
            case atStart => exact ⟨0, by omega, rfl, O, fun j hj => by omega⟩
            case round =>
              obtain ⟨j, hj, rfl, O, hm⟩ := hrel
              have HQ := Lib.hid hm
              clear hm
              by_cases hjn : j < n
              · have g5 : ((j : Int)) < n := by omega
                have g6 : (0 : Int) ≤ j := by omega
                obtain ⟨be, rfl, hb, hc⟩ := HI2.out (by omega)
                have HC := Lib.hid (show ∀ u, Keeps w u [] → ∀ i, i < (inst (S.q p j)).size → u.cell? ((be.add (j * 4)).add i) = (inst (S.q p j))[i]? from fun u ku i hi => by
                  have hi' : i < 4 := hi
                  rw [Addr.add_add, ku.cellAt (by rw [add_block]; exact hb) (by simp), hc j i (by omega) hi']
                  match i, hi' with
                  | 0, _ => rfl
                  | 1, _ => rfl
                  | 2, _ => rfl
                  | 3, _ => rfl)
                clear hc hb
                cases hb : rightS S p (S.q p j) with
                | false =>
                  have HRj : ∀ u g, Blk u g 27 _ → Keeps w u [] → Hid (Calls Try.prog 53 #[.pointer (some ⟨g, 0, none⟩), .int .i64 p, .agg (inst (S.q p j))] u fun e w' => e = .returned (.bool false) ∧ Keeps u w' []) := fun u g hB k => Lib.hid (by have := HR2.out j u g hB k; rwa [hb] at this)
                  have HF := Lib.hid (validE_no (validB_inst p j hlt (by rw [HNn.out]; exact hjn) hb))
                  clear hb
                  go_wp2_with (first
                    | go_big_skip
                    | (refine wpList_load_at 79 rfl rfl rfl rfl (HC.out _ O.keep) Try.underlying99 rfl (by kernel_rfl) ?_; simp only [Act.put, List.setIfInBounds_toArray, List.set_cons_zero, List.set_cons_succ])
                    | (refine own_alloc 9 (#[.int .i64 0, .int .i64 0, .int .i64 0, .int .i64 0]) O rfl rfl rfl (fun _ => by kernel_rfl) ?_; clear O; intro W a9 O; simp only [Act.put, List.setIfInBounds_toArray, List.set_cons_zero, List.set_cons_succ])
                    | (refine own_store_row 0 (.tmp 9) (.tmp 79) O rfl rfl rfl rfl rfl rfl (by kernel_rfl) (by rfl) (inst_cell _) ?_; clear O; intro W O; simp only [List.set_cons_zero] at O)
                    | (refine own_load 81 0 O rfl rfl rfl rfl rfl Try.underlying99 rfl (by kernel_rfl) ?_; simp only [Act.put, List.setIfInBounds_toArray, List.set_cons_zero, List.set_cons_succ])
                    | (go_at_call 53; refine ((HRj _ _ (O.get 1 rfl) O.keep).out).mono ?_; rintro e W ⟨rfl, K⟩; replace O := O.keeps K; clear K))
                  go_ret
                  exact ⟨by rw [HF.out]; rfl, O.keep⟩
                | true =>
                  have HRj : ∀ u g, Blk u g 27 _ → Keeps w u [] → Hid (Calls Try.prog 53 #[.pointer (some ⟨g, 0, none⟩), .int .i64 p, .agg (inst (S.q p j))] u fun e w' => e = .returned (.bool true) ∧ Keeps u w' []) := fun u g hB k => Lib.hid (by have := HR2.out j u g hB k; rwa [hb] at this)
                  have HQ2 := Lib.hid (show ∀ i, i < j + 1 → rightS S p (S.q p i) = true from fun i hi => if h : i = j then (by rw [h]; exact hb) else HQ.out i (by omega))
                  clear hb
                  go_wp2_with (first
                    | go_big_skip
                    | (refine wpList_load_at 79 rfl rfl rfl rfl (HC.out _ O.keep) Try.underlying99 rfl (by kernel_rfl) ?_; simp only [Act.put, List.setIfInBounds_toArray, List.set_cons_zero, List.set_cons_succ])
                    | (refine own_alloc 9 (#[.int .i64 0, .int .i64 0, .int .i64 0, .int .i64 0]) O rfl rfl rfl (fun _ => by kernel_rfl) ?_; clear O; intro W a9 O; simp only [Act.put, List.setIfInBounds_toArray, List.set_cons_zero, List.set_cons_succ])
                    | (refine own_store_row 0 (.tmp 9) (.tmp 79) O rfl rfl rfl rfl rfl rfl (by kernel_rfl) (by rfl) (inst_cell _) ?_; clear O; intro W O; simp only [List.set_cons_zero] at O)
                    | (refine own_load 81 0 O rfl rfl rfl rfl rfl Try.underlying99 rfl (by kernel_rfl) ?_; simp only [Act.put, List.setIfInBounds_toArray, List.set_cons_zero, List.set_cons_succ])
                    | (go_at_call 53; refine ((HRj _ _ (O.get 1 rfl) O.keep).out).mono ?_; rintro e W ⟨rfl, K⟩; replace O := O.keeps K; clear K))
                  go_roundw
                  case rel => exact ⟨j + 1, by omega, by go_num, O.drop_ 1, HQ2.out⟩
                  case measure => (simp [intOf] <;> omega)
              · obtain rfl : j = n := by omega
                have HN2 := Lib.hid (show ∀ i, i < p + 1 → progB S i = true from fun i hi => if h : i = p then (by
                    rw [h]
                    simp only [progB, List.all_eq_true, List.mem_range, Bool.and_eq_true, decide_eq_true_eq]
                    exact ⟨by have := HNn.out; omega, fun x hx => HQ.out x (by rw [HNn.out] at hx; exact hx)⟩) else HN.out i (by omega))
                go_wp2
                go_roundw
                case rel => exact ⟨p + 1, by omega, by go_num, O, HN2.out⟩
                case measure => (simp [intOf] <;> omega)
        · obtain rfl : p = S.np := by omega
          have HF := Lib.hid (validE_yes ((validB_iff S).2 ⟨HH.out, HM.out, fun p hp => by
            have := HN.out p hp
            simpa [progB, List.all_eq_true] using this⟩))
          go_wp2
          go_ret
          exact ⟨by rw [HF.out]; rfl, O.keep⟩
/-- sched.Valid. -/
theorem valid_any (hS : SysIn w S A c R d) : Calls Try.prog 21 #[.agg (sysV S A c R d)] w fun e w' => e = .returned (.int .i64 (validE S)) ∧ Keeps w w' [] := by
  cases hh : headB S with
  | true => exact vbody hh hS
  | false =>
    rw [validE_no (validB_bad hh)]
    by_cases h0 : S.np < 1
    · exact vhead_np0 h0
    by_cases h1 : 64 < S.np
    · exact vhead_np1 h1
    rcases (by cases shB (S.nr : Int) <;> simp : shB (S.nr : Int) = false ∨ shB (S.nr : Int) = true) with h2 | h2
    · exact vhead_nr (by omega) (by omega) h2
    rcases (by cases shB S.gr <;> simp : shB S.gr = false ∨ shB S.gr = true) with h3 | h3
    · exact vhead_gr (by omega) (by omega) h2 h3
    rcases (by cases shB S.lk <;> simp : shB S.lk = false ∨ shB S.lk = true) with h4 | h4
    · exact vhead_lk (by omega) (by omega) h2 h3 h4
    rcases (by cases shB S.ce <;> simp : shB S.ce = false ∨ shB S.ce = true) with h5 | h5
    · exact vhead_ce (by omega) (by omega) h2 h3 h4 h5
    · have h6 : S.nr ≤ 64 := by have : (S.nr : Int) ≤ 64 := by simpa [shB] using h2
                                omega
      rw [(headB_iff S).2 ⟨by omega, by omega, h6, h3, h4, h5⟩] at hh
      cases hh
end
end Go.Proofs.Ytakmcpadkanggaa

/-
  The document's answer: which system may be (quernref13.Valid).
-/
import Derived.Test.YtakmcpadkanggaaT6
namespace Go.Proofs.Ytakmcpadkanggaa
open Go.RowKit

/-- A row of cells at any address, loaded in every world of a class that has them. -/
theorem wpQuiet_load_at {P : Program} {ops : Array Oper} {C : World → Prop} {Q : Act → Prop} {a : Act} {o : Oper} {rest : List Oper} {ty : TypeId} {ad : Addr} {cs : Array Value} {x : Operand} {d : TypeDesc} (n : Nat) (_hd : o.dst = some n)
    (hw : Region.wanted o (yielded ops a.tmps) = true) (ho : o.op = .load ty x) (hx : a.eval x = .pointer (some ad)) (hc : ∀ w, C w → ∀ j, j < cs.size → w.cell? (ad.add j) = cs[j]?)
    (hu : P.underlying ty = some d) (hd : d.isRow = true) (hi : (P.info? ty).map (·.size) = some cs.size)
    (h : wpQuiet P ops C Q rest (a.put o.dst (.agg cs))) : wpQuiet P ops C Q (o :: rest) a :=
  wpQuiet_at n (.agg cs) _hd hw (fun w hC => by
    have hl : (loadCells ad cs.size).run P w = .ok cs w := by
      have := run_loadCells_list (P := P) w ad cs.toList (fun j v hv => by
        have hj : j < cs.size := by
          rcases Nat.lt_or_ge j cs.size with h1 | h1
          · exact h1
          · rw [List.getElem?_eq_none (by simpa using h1)] at hv; cases hv
        rw [hc w hC j hj, ← hv, Array.getElem?_toList])
      simpa using this
    have hr : (loadVar ty ad).run P w = .ok (.agg cs) w := by
      cases hq : P.info? ty with
      | none => simp [hq] at hi
      | some i =>
        have hs : i.size = cs.size := by simpa [hq] using hi
        have hagg : (isAgg ty).run P w = .ok true w := by
          unfold isAgg
          rw [Sem.run_bind, run_underlying hu w]
          cases d <;> simp_all
        simp [loadVar, Sem.run_bind, hagg, sizeOf, typeInfo, hq, hs, hl]
    unfold execOp
    simp only [ho, hx, Instr.loadAt, Instr.sureAddr, Sem.run_bind, Sem.run_pure, Result.andThen_ok, hr]) h

section
variable {S : Sys} {A : Option Addr} {c : Nat} {R : Option Addr} {d : Nat} {w : World}

set_option maxRecDepth 100000 in
theorem rhead_0  (g0 : (S.np : Int) < 1) : Calls Try.prog 23 #[.agg (sysV S A c R d)] w fun e w' => e = .returned (.bool false) ∧ Keeps w w' [] := by
  have O := Own.start w []
  unfold sysV
  go_enter Try.func23, Try.ntmps23
  go_wp2_with (first
    | go_big_skip
    | (refine own_box 1 _ O rfl rfl rfl rfl ?_; clear O; intro W a1 O; simp only [Act.put, List.setIfInBounds_toArray, List.set_cons_zero, List.set_cons_succ]; have c1 := (O.get 0 rfl).cell))
  go_ret
  exact ⟨rfl, O.keep⟩

set_option maxRecDepth 100000 in
theorem rhead_1 (g0 : ¬ (S.np : Int) < 1) (g1 : 64 < (S.np : Int)) : Calls Try.prog 23 #[.agg (sysV S A c R d)] w fun e w' => e = .returned (.bool false) ∧ Keeps w w' [] := by
  have O := Own.start w []
  unfold sysV
  go_enter Try.func23, Try.ntmps23
  go_wp2_with (first
    | go_big_skip
    | (refine own_box 1 _ O rfl rfl rfl rfl ?_; clear O; intro W a1 O; simp only [Act.put, List.setIfInBounds_toArray, List.set_cons_zero, List.set_cons_succ]; have c1 := (O.get 0 rfl).cell))
  go_ret
  exact ⟨rfl, O.keep⟩

set_option maxRecDepth 100000 in
theorem rhead_2 (g0 : ¬ (S.np : Int) < 1) (g1 : ¬ 64 < (S.np : Int)) (g2 : 64 < (S.nr : Int)) : Calls Try.prog 23 #[.agg (sysV S A c R d)] w fun e w' => e = .returned (.bool false) ∧ Keeps w w' [] := by
  have O := Own.start w []
  unfold sysV
  go_enter Try.func23, Try.ntmps23
  go_wp2_with (first
    | go_big_skip
    | (refine own_box 1 _ O rfl rfl rfl rfl ?_; clear O; intro W a1 O; simp only [Act.put, List.setIfInBounds_toArray, List.set_cons_zero, List.set_cons_succ]; have c1 := (O.get 0 rfl).cell))
  go_ret
  exact ⟨rfl, O.keep⟩

set_option maxRecDepth 100000 in
theorem rhead_3 (g0 : ¬ (S.np : Int) < 1) (g1 : ¬ 64 < (S.np : Int)) (g2 : ¬ 64 < (S.nr : Int)) (g3 : S.gr < 0) : Calls Try.prog 23 #[.agg (sysV S A c R d)] w fun e w' => e = .returned (.bool false) ∧ Keeps w w' [] := by
  have O := Own.start w []
  unfold sysV
  go_enter Try.func23, Try.ntmps23
  go_wp2_with (first
    | go_big_skip
    | (refine own_box 1 _ O rfl rfl rfl rfl ?_; clear O; intro W a1 O; simp only [Act.put, List.setIfInBounds_toArray, List.set_cons_zero, List.set_cons_succ]; have c1 := (O.get 0 rfl).cell))
  go_ret
  exact ⟨rfl, O.keep⟩

set_option maxRecDepth 100000 in
theorem rhead_4 (g0 : ¬ (S.np : Int) < 1) (g1 : ¬ 64 < (S.np : Int)) (g2 : ¬ 64 < (S.nr : Int)) (g3 : ¬ S.gr < 0) (g4 : 64 < S.gr) : Calls Try.prog 23 #[.agg (sysV S A c R d)] w fun e w' => e = .returned (.bool false) ∧ Keeps w w' [] := by
  have O := Own.start w []
  unfold sysV
  go_enter Try.func23, Try.ntmps23
  go_wp2_with (first
    | go_big_skip
    | (refine own_box 1 _ O rfl rfl rfl rfl ?_; clear O; intro W a1 O; simp only [Act.put, List.setIfInBounds_toArray, List.set_cons_zero, List.set_cons_succ]; have c1 := (O.get 0 rfl).cell))
  go_ret
  exact ⟨rfl, O.keep⟩

set_option maxRecDepth 100000 in
theorem rhead_5 (g0 : ¬ (S.np : Int) < 1) (g1 : ¬ 64 < (S.np : Int)) (g2 : ¬ 64 < (S.nr : Int)) (g3 : ¬ S.gr < 0) (g4 : ¬ 64 < S.gr) (g5 : S.lk < 0) : Calls Try.prog 23 #[.agg (sysV S A c R d)] w fun e w' => e = .returned (.bool false) ∧ Keeps w w' [] := by
  have O := Own.start w []
  unfold sysV
  go_enter Try.func23, Try.ntmps23
  go_wp2_with (first
    | go_big_skip
    | (refine own_box 1 _ O rfl rfl rfl rfl ?_; clear O; intro W a1 O; simp only [Act.put, List.setIfInBounds_toArray, List.set_cons_zero, List.set_cons_succ]; have c1 := (O.get 0 rfl).cell))
  go_ret
  exact ⟨rfl, O.keep⟩

set_option maxRecDepth 100000 in
theorem rhead_6 (g0 : ¬ (S.np : Int) < 1) (g1 : ¬ 64 < (S.np : Int)) (g2 : ¬ 64 < (S.nr : Int)) (g3 : ¬ S.gr < 0) (g4 : ¬ 64 < S.gr) (g5 : ¬ S.lk < 0) (g6 : 64 < S.lk) : Calls Try.prog 23 #[.agg (sysV S A c R d)] w fun e w' => e = .returned (.bool false) ∧ Keeps w w' [] := by
  have O := Own.start w []
  unfold sysV
  go_enter Try.func23, Try.ntmps23
  go_wp2_with (first
    | go_big_skip
    | (refine own_box 1 _ O rfl rfl rfl rfl ?_; clear O; intro W a1 O; simp only [Act.put, List.setIfInBounds_toArray, List.set_cons_zero, List.set_cons_succ]; have c1 := (O.get 0 rfl).cell))
  go_ret
  exact ⟨rfl, O.keep⟩

set_option maxRecDepth 100000 in
theorem rhead_7 (g0 : ¬ (S.np : Int) < 1) (g1 : ¬ 64 < (S.np : Int)) (g2 : ¬ 64 < (S.nr : Int)) (g3 : ¬ S.gr < 0) (g4 : ¬ 64 < S.gr) (g5 : ¬ S.lk < 0) (g6 : ¬ 64 < S.lk) (g7 : S.ce < 0) : Calls Try.prog 23 #[.agg (sysV S A c R d)] w fun e w' => e = .returned (.bool false) ∧ Keeps w w' [] := by
  have O := Own.start w []
  unfold sysV
  go_enter Try.func23, Try.ntmps23
  go_wp2_with (first
    | go_big_skip
    | (refine own_box 1 _ O rfl rfl rfl rfl ?_; clear O; intro W a1 O; simp only [Act.put, List.setIfInBounds_toArray, List.set_cons_zero, List.set_cons_succ]; have c1 := (O.get 0 rfl).cell))
  go_ret
  exact ⟨rfl, O.keep⟩

set_option maxRecDepth 100000 in
theorem rhead_8 (g0 : ¬ (S.np : Int) < 1) (g1 : ¬ 64 < (S.np : Int)) (g2 : ¬ 64 < (S.nr : Int)) (g3 : ¬ S.gr < 0) (g4 : ¬ 64 < S.gr) (g5 : ¬ S.lk < 0) (g6 : ¬ 64 < S.lk) (g7 : ¬ S.ce < 0) (g8 : 64 < S.ce) : Calls Try.prog 23 #[.agg (sysV S A c R d)] w fun e w' => e = .returned (.bool false) ∧ Keeps w w' [] := by
  have O := Own.start w []
  unfold sysV
  go_enter Try.func23, Try.ntmps23
  go_wp2_with (first
    | go_big_skip
    | (refine own_box 1 _ O rfl rfl rfl rfl ?_; clear O; intro W a1 O; simp only [Act.put, List.setIfInBounds_toArray, List.set_cons_zero, List.set_cons_succ]; have c1 := (O.get 0 rfl).cell))
  go_ret
  exact ⟨rfl, O.keep⟩

set_option maxRecDepth 100000 in
set_option maxHeartbeats 4000000 in
theorem rbody (hh : headB S = true) (hS : SysIn w S A c R d) : Calls Try.prog 23 #[.agg (sysV S A c R d)] w fun e w' => e = .returned (.bool (validB S)) ∧ Keeps w w' [] := by
  have O := Own.start w []
  obtain ⟨h0, h1, h2, h3, h4, h5⟩ := (headB_iff S).1 hh
  simp only [shB, Bool.and_eq_true, decide_eq_true_eq] at h3 h4 h5
  have HR := Lib.hid (fun (p : Nat) (hp : p < S.np) (hl : S.lp p ≤ 256) (i : Nat) (u : World) (k : Keeps w u []) => refright_any (S.q p i) S A c R d u p (hS.kept k) hp hl h5.1)
  have HP := Lib.hid hS.progs
  have HI := Lib.hid hS.rooms
  have HH := Lib.hid hh
  clear hS hh
  have g0 : ¬ (S.np : Int) < 1 := by omega
  have g1 : ¬ 64 < (S.np : Int) := by omega
  have g2 : ¬ 64 < (S.nr : Int) := by omega
  have g3 : ¬ S.gr < 0 := by omega
  have g4 : ¬ 64 < S.gr := by omega
  have g5 : ¬ S.lk < 0 := by omega
  have g6 : ¬ 64 < S.lk := by omega
  have g7 : ¬ S.ce < 0 := by omega
  have g8 : ¬ 64 < S.ce := by omega
  clear h0 h3 h4 h5
  unfold sysV at HR ⊢
  go_enter Try.func23, Try.ntmps23
  go_wp2_with (first
    | go_big_skip
    | (refine own_box 1 _ O rfl rfl rfl rfl ?_; clear O; intro W a1 O; simp only [Act.put, List.setIfInBounds_toArray, List.set_cons_zero, List.set_cons_succ]; have c1 := (O.get 0 rfl).cell))
  clear c1 g0 g1 g2 g3 g4 g5 g6 g7 g8
  go_loopw [3] (fun i wr => ∃ k : Nat, k ≤ S.nr ∧ i = .int .i64 k ∧ Own w wr [] [(a1, 27, #[.slice A S.np c, .slice R S.nr d, .int .i64 S.gr, .int .i64 S.lk, .int .i64 S.ce])] ∧ ∀ j, j < k → roomB (S.rm j) = true) (fun i _ => S.nr - (intOf i).toNat)
  case atStart => exact ⟨0, by omega, rfl, O, fun j hj => by omega⟩
  case round =>
    obtain ⟨k, hk, rfl, O, hm⟩ := hrel
    have HM := Lib.hid hm
    clear hm
    have c1 := (O.get 0 rfl).cell
    by_cases hlt : k < S.nr
    · have g2 : ((k : Int)) < S.nr := by omega
      have g3 : (0 : Int) ≤ k := by omega
      obtain ⟨ad, rfl, hb, hc⟩ := HI.out (by omega)
      have ck : wr.cell? (ad.add k) = some (.int .i64 (S.rm k)) := (O.keep.cellAt (by rw [add_block]; exact hb) (by simp)).trans (hc k hlt)
      clear hc hb
      generalize hx : S.rm k = x at ck
      by_cases hr1 : x < 1
      · have HF := Lib.hid (validB_room k hlt (by rw [hx]; simp [roomB]; omega))
        clear hx
        go_wp2
        go_ret
        exact ⟨by rw [HF.out]; rfl, O.keep⟩
      · by_cases hr2 : 1024 < x
        · have HF := Lib.hid (validB_room k hlt (by rw [hx]; simp [roomB]; omega))
          clear hx
          go_wp2
          go_ret
          exact ⟨by rw [HF.out]; rfl, O.keep⟩
        · have HM2 := Lib.hid (show ∀ j, j < k + 1 → roomB (S.rm j) = true from fun j hj => if h : j = k then (by rw [h, hx]; simp [roomB]; omega) else HM.out j (by omega))
          clear hx
          go_wp2
          clear ck hr1 hr2
          go_roundw
          case rel => exact ⟨k + 1, by omega, by go_num, O, HM2.out⟩
          case measure => (simp [intOf] <;> omega)
    · obtain rfl : k = S.nr := by omega
      go_wp2
      clear c1
      go_loopw [4] (fun i wr => ∃ p : Nat, p ≤ S.np ∧ i = .int .i64 p ∧ Own w wr [] [(a1, 27, #[.slice A S.np c, .slice R S.nr d, .int .i64 S.gr, .int .i64 S.lk, .int .i64 S.ce])] ∧ ∀ j, j < p → progB S j = true) (fun i _ => S.np - (intOf i).toNat)
      case atStart => exact ⟨0, by omega, rfl, O, fun j hj => by omega⟩
      case round =>
        obtain ⟨p, hp, rfl, O, hm⟩ := hrel
        have HN := Lib.hid hm
        clear hm
        have c1 := (O.get 0 rfl).cell
        by_cases hlt : p < S.np
        · have g2 : ((p : Int)) < S.np := by omega
          have g3 : (0 : Int) ≤ p := by omega
          obtain ⟨ad, rfl, hb, hc⟩ := HP.out (by omega)
          obtain ⟨B, cb, hcell, hle, hmax, hI⟩ := hc p hlt
          have HCP := Lib.hid (show ∀ u, Keeps w u [] → u.cell? (ad.add p) = some (.slice B (S.lp p) cb) from fun u ku => (ku.cellAt (by rw [add_block]; exact hb) (by simp)).trans hcell)
          have cp := HCP.out _ O.keep
          have HI2 := Lib.hid hI
          clear hc hb hcell hI
          by_cases hl : 256 < S.lp p
          · have HF := Lib.hid (validB_long p hlt hl)
            have g4 : 256 < (S.lp p : Int) := by omega
            go_wp2
            go_ret
            exact ⟨by rw [HF.out]; rfl, O.keep⟩
          · have g4 : ¬ 256 < (S.lp p : Int) := by omega
            have HR2 := Lib.hid (HR.out p hlt (by omega))
            generalize hn : S.lp p = n at cp g4 HCP
            have HNn := Lib.hid hn
            go_wp2
            clear cp c1
            go_loopw [5] (fun i wr => ∃ j : Nat, j ≤ n ∧ i = .int .i64 j ∧ Own w wr [] [(a1, 27, #[.slice (some ad) S.np c, .slice R S.nr d, .int .i64 S.gr, .int .i64 S.lk, .int .i64 S.ce])] ∧ ∀ i, i < j → rightS S p (S.q p i) = true) (fun i _ => n - (intOf i).toNat)
            case atStart => exact ⟨0, by omega, rfl, O, fun j hj => by omega⟩
            case round =>
              obtain ⟨j, hj, rfl, O, hm⟩ := hrel
              have HQ := Lib.hid hm
              clear hm
              by_cases hjn : j < n
              · have g5 : ((j : Int)) < n := by omega
                have g6 : (0 : Int) ≤ j := by omega
                obtain ⟨be, rfl, hb, hc⟩ := HI2.out (by omega)
                have HC := Lib.hid (show ∀ u, Keeps w u [] → ∀ i, i < (inst (S.q p j)).size → u.cell? ((be.add (j * 4)).add i) = (inst (S.q p j))[i]? from fun u ku i hi => by
                  have hi' : i < 4 := hi
                  rw [Addr.add_add, ku.cellAt (by rw [add_block]; exact hb) (by simp), hc j i (by omega) hi']
                  match i, hi' with
                  | 0, _ => rfl
                  | 1, _ => rfl
                  | 2, _ => rfl
                  | 3, _ => rfl)
                clear hc hb
                cases hb : rightS S p (S.q p j) with
                | false =>
                  have HRj : ∀ u, Keeps w u [] → Hid (Calls Try.prog 54 #[.agg #[.slice (some ad) S.np c, .slice R S.nr d, .int .i64 S.gr, .int .i64 S.lk, .int .i64 S.ce], .int .i64 p, .agg (inst (S.q p j))] u fun e w' => e = .returned (.bool false) ∧ Keeps u w' []) := fun u k => Lib.hid (by have := HR2.out j u k; rwa [hb] at this)
                  have HF := Lib.hid (validB_inst p j hlt (by rw [HNn.out]; exact hjn) hb)
                  clear hb
                  have c1 := (O.get 0 rfl).cell
                  have cp := HCP.out _ O.keep
                  go_wp2
                  clear c1 cp
                  have c1 := Later.cell (O.get 0 rfl)
                  have cp : ∀ p' : Later wr, p'.1.cell? (ad.add p) = some (.slice (some be) n cb) := fun p' => HCP.out _ (O.keep.trans p'.2 (by simp))
                  refine wp_quiet_later (by kernel_rfl) (by kernel_rfl) ?_
                  repeat (first
                    | (refine wpQuiet_load 95 rfl rfl rfl rfl (Later.blk (O.get 0 rfl)) Try.underlying27 rfl (by kernel_rfl) ?_; simp only [Act.put, List.setIfInBounds_toArray, List.set_cons_zero, List.set_cons_succ])
                    | (refine wpQuiet_load_at 104 rfl rfl rfl rfl (fun u hu => HC.out u (by obtain ⟨p', rfl⟩ := hu; exact O.keep.trans p'.2 (by simp))) Try.underlying99 rfl (by kernel_rfl) ?_; simp only [Act.put, List.setIfInBounds_toArray, List.set_cons_zero, List.set_cons_succ])
                    | go_big_quiet_step ((go_at_call 54; exact later_of (HRj _ (O.keep.trans (Later.keep _) (by simp))).out)))
                  refine wpQuiet_nil ?_
                  intro _ hw
                  obtain ⟨p', rfl⟩ := hw
                  replace O := O.keeps p'.2
                  clear c1 cp
                  generalize p'.1 = W3 at O ⊢
                  go_wp2
                  go_ret
                  exact ⟨by rw [HF.out]; rfl, O.keep⟩
                | true =>
                  have HRj : ∀ u, Keeps w u [] → Hid (Calls Try.prog 54 #[.agg #[.slice (some ad) S.np c, .slice R S.nr d, .int .i64 S.gr, .int .i64 S.lk, .int .i64 S.ce], .int .i64 p, .agg (inst (S.q p j))] u fun e w' => e = .returned (.bool true) ∧ Keeps u w' []) := fun u k => Lib.hid (by have := HR2.out j u k; rwa [hb] at this)
                  have HQ2 := Lib.hid (show ∀ i, i < j + 1 → rightS S p (S.q p i) = true from fun i hi => if h : i = j then (by rw [h]; exact hb) else HQ.out i (by omega))
                  clear hb
                  have c1 := (O.get 0 rfl).cell
                  have cp := HCP.out _ O.keep
                  go_wp2
                  clear c1 cp
                  have c1 := Later.cell (O.get 0 rfl)
                  have cp : ∀ p' : Later wr, p'.1.cell? (ad.add p) = some (.slice (some be) n cb) := fun p' => HCP.out _ (O.keep.trans p'.2 (by simp))
                  refine wp_quiet_later (by kernel_rfl) (by kernel_rfl) ?_
                  repeat (first
                    | (refine wpQuiet_load 95 rfl rfl rfl rfl (Later.blk (O.get 0 rfl)) Try.underlying27 rfl (by kernel_rfl) ?_; simp only [Act.put, List.setIfInBounds_toArray, List.set_cons_zero, List.set_cons_succ])
                    | (refine wpQuiet_load_at 104 rfl rfl rfl rfl (fun u hu => HC.out u (by obtain ⟨p', rfl⟩ := hu; exact O.keep.trans p'.2 (by simp))) Try.underlying99 rfl (by kernel_rfl) ?_; simp only [Act.put, List.setIfInBounds_toArray, List.set_cons_zero, List.set_cons_succ])
                    | go_big_quiet_step ((go_at_call 54; exact later_of (HRj _ (O.keep.trans (Later.keep _) (by simp))).out)))
                  refine wpQuiet_nil ?_
                  intro _ hw
                  obtain ⟨p', rfl⟩ := hw
                  replace O := O.keeps p'.2
                  clear c1 cp
                  generalize p'.1 = W3 at O ⊢
                  go_wp2
                  go_roundw
                  case rel => exact ⟨j + 1, by omega, by go_num, O, HQ2.out⟩
                  case measure => (simp [intOf] <;> omega)
              · obtain rfl : j = n := by omega
                have HN2 := Lib.hid (show ∀ i, i < p + 1 → progB S i = true from fun i hi => if h : i = p then (by
                    rw [h]
                    simp only [progB, List.all_eq_true, List.mem_range, Bool.and_eq_true, decide_eq_true_eq]
                    exact ⟨by have := HNn.out; omega, fun x hx => HQ.out x (by rw [HNn.out] at hx; exact hx)⟩) else HN.out i (by omega))
                have c1 := (O.get 0 rfl).cell
                have cp := HCP.out _ O.keep
                go_wp2
                clear c1 cp
                go_roundw
                case rel => exact ⟨p + 1, by omega, by go_num, O, HN2.out⟩
                case measure => (simp [intOf] <;> omega)
        · obtain rfl : p = S.np := by omega
          have HF := Lib.hid ((validB_iff S).2 ⟨HH.out, HM.out, fun p hp => by
            have := HN.out p hp
            simpa [progB, List.all_eq_true] using this⟩)
          go_wp2
          go_ret
          exact ⟨by rw [HF.out]; rfl, O.keep⟩
/-- quernref13.Valid. -/
theorem refvalid_any (hS : SysIn w S A c R d) : Calls Try.prog 23 #[.agg (sysV S A c R d)] w fun e w' => e = .returned (.bool (validB S)) ∧ Keeps w w' [] := by
  cases hh : headB S with
  | true => exact rbody hh hS
  | false =>
    rw [validB_bad hh]
    by_cases g0 : (S.np : Int) < 1
    · exact rhead_0 g0
    by_cases g1 : 64 < (S.np : Int)
    · exact rhead_1 g0 g1
    by_cases g2 : 64 < (S.nr : Int)
    · exact rhead_2 g0 g1 g2
    by_cases g3 : S.gr < 0
    · exact rhead_3 g0 g1 g2 g3
    by_cases g4 : 64 < S.gr
    · exact rhead_4 g0 g1 g2 g3 g4
    by_cases g5 : S.lk < 0
    · exact rhead_5 g0 g1 g2 g3 g4 g5
    by_cases g6 : 64 < S.lk
    · exact rhead_6 g0 g1 g2 g3 g4 g5 g6
    by_cases g7 : S.ce < 0
    · exact rhead_7 g0 g1 g2 g3 g4 g5 g6 g7
    by_cases g8 : 64 < S.ce
    · exact rhead_8 g0 g1 g2 g3 g4 g5 g6 g7 g8
    rw [(headB_iff S).2 ⟨by omega, by omega, by omega, by simp [shB]; omega, by simp [shB]; omega, by simp [shB]; omega⟩] at hh
    cases hh
end
end Go.Proofs.Ytakmcpadkanggaa

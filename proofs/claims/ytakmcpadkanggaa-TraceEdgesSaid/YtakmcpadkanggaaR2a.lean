/-
  Where edges lead to an event from, by the document: one kind of event.
-/
import Derived.Test.YtakmcpadkanggaaR2
namespace Go.Proofs.Ytakmcpadkanggaa
open Go.RowKit Go.Maps Go.Deep

section
variable {w : World} {S : Sys} {A : Option Addr} {c : Nat} {R : Option Addr} {d n : Nat} {E : Nat → Ev} {B : Option Addr} {cb : Nat}
set_option maxRecDepth 100000 in
set_option maxHeartbeats 4000000 in
theorem into_6 (hS : SysIn w S A c R d) (hE : EvsAt w B n E) (hn : n ≤ 40000) (hrm : ∀ q, q < S.nr → 1 ≤ S.rm q ∧ S.rm q ≤ 1000000) (j : Nat) (hj : j < n) (hok : okE S (stN E j) (E j) = true) (hop : (E j).op = 6) : Calls Try.prog 71 #[.agg (sysV S A c R d), .slice B n cb, .int .i64 (j : Int)] w (IntoPost w S E j) := by
  have O := Own.start w []
  have HE := Lib.hid hE
  have g1 : ((j : Nat) : Int) < n := by omega
  have g0 : (0 : Int) ≤ j := by omega
  obtain ⟨ad, rfl, hc⟩ := EvsAt.row (u := w) HE.out hj
  have HC := Lib.hid hc
  obtain ⟨e, he⟩ : ∃ e, e = E j := ⟨_, rfl⟩
  rw [← he] at hc HC hop
  have HEJ := Lib.hid he
  have HRO := Lib.hid hS.rooms
  have HRM := Lib.hid hrm
  have HOK := Lib.hid hok
  clear hc hE he hS hrm hok
  obtain ⟨who, op, a, v, sh⟩ := e
  have HOP := Lib.hid hop
  clear hop
  go_enter Try.func71, Try.ntmps71
  go_wp2_with (first
    | go_big_skip
    | (refine own_box 3 (sysV S A c R d) O rfl rfl rfl rfl ?_; clear O; intro W a3 O; simp only [Act.put, List.setIfInBounds_toArray, List.set_cons_zero, List.set_cons_succ])
    | (refine wpList_load_at 21 rfl rfl rfl rfl (HC.out [] _ O.keep (by simp)) Try.underlying37 rfl (by kernel_rfl) ?_; simp only [Act.put, List.setIfInBounds_toArray, List.set_cons_zero, List.set_cons_succ])
    | (refine own_alloc 7 (evC ⟨0, 0, 0, 0, false⟩) O rfl rfl rfl (fun _ => by kernel_rfl) ?_; clear O; intro W g7 O; simp only [Act.put, List.setIfInBounds_toArray, List.set_cons_zero, List.set_cons_succ])
    | (refine own_store_row 0 (.tmp 7) (.tmp 21) O rfl rfl rfl rfl rfl rfl (by kernel_rfl) (by rfl) (evC_cell _) ?_; clear O; intro W O; simp only [List.set_cons_zero] at O))
  go_loopg [9, 10, 11, 12] j (fun g s9 s10 s11 s12 wr => ∃ k, k ≤ j ∧ g = j - k ∧ s12 = .int .i64 (k : Int) ∧ s9 = .int .i64 (oI (lastN E who k)) ∧ s10 = .int .i64 (oI (bornN E who k)) ∧ s11 = .int .i64 ((pickL (samE E ⟨who, op, a, v, sh⟩) k).length : Int) ∧ Own w wr [] (LI S A c R d g7 a3 ⟨who, op, a, v, sh⟩))
  case atStart => exact ⟨0, by omega, by omega, rfl, rfl, rfl, rfl, O⟩
  case round =>
    obtain ⟨k, hk, hgk, rfl, rfl, rfl, rfl, O⟩ := hrel
    have HG := Lib.hid hgk
    clear hgk
    by_cases hlt : k < j
    · have g2 : ((k : Int)) < j := by omega
      have g3 : ((k : Int)) < n := by omega
      have g4 : (0 : Int) ≤ k := by omega
      obtain ⟨ad', e', hc⟩ := EvsAt.row (u := w) HE.out (show k < n by omega)
      cases e'
      obtain ⟨f, hf⟩ : ∃ f, f = E k := ⟨_, rfl⟩
      rw [← hf] at hc
      have HCK := Lib.hid hc
      have HLN := Lib.hid (show lastN E who (k + 1) = if f.who = who then some (k : Int) else lastN E who k by rw [hf]; rfl)
      have HBN := Lib.hid (show bornN E who (k + 1) = if f.op = 14 ∧ 0 < f.v ∧ f.v = who then some (k : Int) else bornN E who k by rw [hf]; rfl)
      have HSM := Lib.hid (show samE E ⟨who, op, a, v, sh⟩ k = ((((op == 5) && (f.op == 5)) || ((op == 6) && (!sh && ((f.op == 6) && !f.sh)))) && (f.a == a)) by rw [hf]; rfl)
      have HPL := Lib.hid (show (pickL (samE E ⟨who, op, a, v, sh⟩) (k + 1)).length = (pickL (samE E ⟨who, op, a, v, sh⟩) k).length + if samE E ⟨who, op, a, v, sh⟩ k then 1 else 0 by rw [pickL_succ, List.length_append]; split <;> rfl)
      have hpl := pickL_length (samE E ⟨who, op, a, v, sh⟩) k
      generalize samE E ⟨who, op, a, v, sh⟩ k = sm at HSM HPL
      generalize hnk : (pickL (samE E ⟨who, op, a, v, sh⟩) k).length = nk at hpl HPL ⊢
      clear hf hc hnk
      obtain ⟨lw, lo, la, lv, ls⟩ := f
      have c0 : ∀ p : Later wr, p.1.cell? (ad.add (k * 5)) = some (.int .i64 lw) := fun p => HCK.out [] _ (O.keep.trans p.2 (by simp)) (by simp) 0 (by show 0 < 5; omega)
      have c1 : ∀ p : Later wr, p.1.cell? ⟨(ad.add (k * 5)).block, (ad.add (k * 5)).off + 1, none⟩ = some (.int .i64 lo) := fun p => HCK.out [] _ (O.keep.trans p.2 (by simp)) (by simp) 1 (by show 1 < 5; omega)
      have c2 : ∀ p : Later wr, p.1.cell? ⟨(ad.add (k * 5)).block, (ad.add (k * 5)).off + 2, none⟩ = some (.int .i64 la) := fun p => HCK.out [] _ (O.keep.trans p.2 (by simp)) (by simp) 2 (by show 2 < 5; omega)
      have c3 : ∀ p : Later wr, p.1.cell? ⟨(ad.add (k * 5)).block, (ad.add (k * 5)).off + 3, none⟩ = some (.int .i64 lv) := fun p => HCK.out [] _ (O.keep.trans p.2 (by simp)) (by simp) 3 (by show 3 < 5; omega)
      have c4 : ∀ p : Later wr, p.1.cell? ⟨(ad.add (k * 5)).block, (ad.add (k * 5)).off + 4, none⟩ = some (.bool ls) := fun p => HCK.out [] _ (O.keep.trans p.2 (by simp)) (by simp) 4 (by show 4 < 5; omega)
      have c7 : ∀ (p : Later wr) (i : Nat), p.1.cell? ⟨g7, i, none⟩ = #[Value.int .i64 who, .int .i64 op, .int .i64 a, .int .i64 v, .bool sh][i]? := Later.cell (O.get 0 rfl)
      go_upto_region 9 with (fail)
      refine wp_quiet_later (by kernel_rfl) (by kernel_rfl) ?_
      repeat (first
        | go_big_quiet_skip
        | go_big_quiet_step (fail))
      refine wpQuiet_nil ?_
      intro _ hw
      obtain ⟨p', rfl⟩ := hw
      replace O := O.keeps p'.2
      clear c0 c1 c2 c3 c4 c7
      generalize p'.1 = W at O ⊢
      go_upto_if 34 with (fail)
      go_cut [9] (fun s9 wx => s9 = .int .i64 (oI (lastN E who (k + 1))) ∧ Own w wx [] (LI S A c R d g7 a3 ⟨who, op, a, v, sh⟩))
      case first =>
        by_cases h : lw = who
        · have e1 : (lw == who) = true := by simpa using h
          have HN := Lib.hid (HLN.out.trans (if_pos h))
          clear h
          go_wp2
          go_meet
          exact ⟨by rw [HN.out]; rfl, O⟩
        · have e1 : (lw == who) = false := by simpa using h
          have HN := Lib.hid (HLN.out.trans (if_neg h))
          clear h
          go_wp2
          go_meet
          exact ⟨by rw [HN.out], O⟩
      case rest =>
        obtain ⟨rfl, O⟩ := hcut
        clear HLN
        have c0 : ∀ p : Later wc, p.1.cell? (ad.add (k * 5)) = some (.int .i64 lw) := fun p => HCK.out [] _ (O.keep.trans p.2 (by simp)) (by simp) 0 (by show 0 < 5; omega)
        have c1 : ∀ p : Later wc, p.1.cell? ⟨(ad.add (k * 5)).block, (ad.add (k * 5)).off + 1, none⟩ = some (.int .i64 lo) := fun p => HCK.out [] _ (O.keep.trans p.2 (by simp)) (by simp) 1 (by show 1 < 5; omega)
        have c2 : ∀ p : Later wc, p.1.cell? ⟨(ad.add (k * 5)).block, (ad.add (k * 5)).off + 2, none⟩ = some (.int .i64 la) := fun p => HCK.out [] _ (O.keep.trans p.2 (by simp)) (by simp) 2 (by show 2 < 5; omega)
        have c3 : ∀ p : Later wc, p.1.cell? ⟨(ad.add (k * 5)).block, (ad.add (k * 5)).off + 3, none⟩ = some (.int .i64 lv) := fun p => HCK.out [] _ (O.keep.trans p.2 (by simp)) (by simp) 3 (by show 3 < 5; omega)
        have c4 : ∀ p : Later wc, p.1.cell? ⟨(ad.add (k * 5)).block, (ad.add (k * 5)).off + 4, none⟩ = some (.bool ls) := fun p => HCK.out [] _ (O.keep.trans p.2 (by simp)) (by simp) 4 (by show 4 < 5; omega)
        have c7 : ∀ (p : Later wc) (i : Nat), p.1.cell? ⟨g7, i, none⟩ = #[Value.int .i64 who, .int .i64 op, .int .i64 a, .int .i64 v, .bool sh][i]? := Later.cell (O.get 0 rfl)
        obtain ⟨bB, hbB⟩ : ∃ bB, bB = decide (lo = 14 ∧ 0 < lv ∧ lv = who) := ⟨_, rfl⟩
        have HBB := Lib.hid hbB
        clear hbB
        go_upto_region 11 with (fail)
        go_cut [56] (fun s wx => s = .bool bB ∧ Own w wx [] (LI S A c R d g7 a3 ⟨who, op, a, v, sh⟩))
        case first =>
          by_cases h1 : lo = 14
          · have qh1 : (lo == 14) = true := by simpa using h1
            by_cases h2 : lv = who
            · have qh2 : (lv == who) = true := by simpa using h2
              by_cases h3 : 0 < who
              · have qh3 : decide (0 < who) = true := decide_eq_true h3
                have HV := Lib.hid (show bB = true by rw [HBB.out]; simp [qh1, h1, qh2, h2, qh3, h3])
                clear h1 h2 h3
                refine wp_quiet_later (by kernel_rfl) (by kernel_rfl) ?_
                repeat (first
                  | go_big_quiet_skip
                  | go_big_quiet_step (fail))
                refine wpQuiet_nil ?_
                intro _ hw
                obtain ⟨p', rfl⟩ := hw
                replace O := O.keeps p'.2
                clear c0 c1 c2 c3 c4 c7 qh1 qh2 qh3
                generalize p'.1 = W at O ⊢
                go_wp2
                go_meet
                exact ⟨by rw [HV.out], O⟩
              · have qh3 : decide (0 < who) = false := decide_eq_false h3
                have HV := Lib.hid (show bB = false by rw [HBB.out]; simp [qh1, h1, qh2, h2, qh3, h3])
                clear h1 h2 h3
                refine wp_quiet_later (by kernel_rfl) (by kernel_rfl) ?_
                repeat (first
                  | go_big_quiet_skip
                  | go_big_quiet_step (fail))
                refine wpQuiet_nil ?_
                intro _ hw
                obtain ⟨p', rfl⟩ := hw
                replace O := O.keeps p'.2
                clear c0 c1 c2 c3 c4 c7 qh1 qh2 qh3
                generalize p'.1 = W at O ⊢
                go_wp2
                go_meet
                exact ⟨by rw [HV.out], O⟩
            · have qh2 : (lv == who) = false := by simpa using h2
              have HV := Lib.hid (show bB = false by rw [HBB.out]; simp [qh1, h1, qh2, h2])
              clear h1 h2
              refine wp_quiet_later (by kernel_rfl) (by kernel_rfl) ?_
              repeat (first
                | go_big_quiet_skip
                | go_big_quiet_step (fail))
              refine wpQuiet_nil ?_
              intro _ hw
              obtain ⟨p', rfl⟩ := hw
              replace O := O.keeps p'.2
              clear c0 c1 c2 c3 c4 c7 qh1 qh2
              generalize p'.1 = W at O ⊢
              go_wp2
              go_meet
              exact ⟨by rw [HV.out], O⟩
          · have qh1 : (lo == 14) = false := by simpa using h1
            have HV := Lib.hid (show bB = false by rw [HBB.out]; simp [qh1, h1])
            clear h1
            refine wp_quiet_later (by kernel_rfl) (by kernel_rfl) ?_
            repeat (first
              | go_big_quiet_skip
              | go_big_quiet_step (fail))
            refine wpQuiet_nil ?_
            intro _ hw
            obtain ⟨p', rfl⟩ := hw
            replace O := O.keeps p'.2
            clear c0 c1 c2 c3 c4 c7 qh1
            generalize p'.1 = W at O ⊢
            go_wp2
            go_meet
            exact ⟨by rw [HV.out], O⟩
        case rest =>
          obtain ⟨rfl, O⟩ := hcut
          clear c0 c1 c2 c3 c4 c7
          go_upto_if 56 with (fail)
          go_cut [10] (fun s10 wx => s10 = .int .i64 (oI (bornN E who (k + 1))) ∧ Own w wx [] (LI S A c R d g7 a3 ⟨who, op, a, v, sh⟩))
          case first =>
            cases bB with
            | true =>
              have HN := Lib.hid (HBN.out.trans (if_pos (of_decide_eq_true HBB.out.symm)))
              go_wp2
              go_meet
              exact ⟨by rw [HN.out]; rfl, O⟩
            | false =>
              have HN := Lib.hid (HBN.out.trans (if_neg (of_decide_eq_false HBB.out.symm)))
              go_wp2
              go_meet
              exact ⟨by rw [HN.out], O⟩
          case rest =>
            obtain ⟨rfl, O⟩ := hcut
            clear HBN HBB
            have c0 : ∀ p : Later wc, p.1.cell? (ad.add (k * 5)) = some (.int .i64 lw) := fun p => HCK.out [] _ (O.keep.trans p.2 (by simp)) (by simp) 0 (by show 0 < 5; omega)
            have c1 : ∀ p : Later wc, p.1.cell? ⟨(ad.add (k * 5)).block, (ad.add (k * 5)).off + 1, none⟩ = some (.int .i64 lo) := fun p => HCK.out [] _ (O.keep.trans p.2 (by simp)) (by simp) 1 (by show 1 < 5; omega)
            have c2 : ∀ p : Later wc, p.1.cell? ⟨(ad.add (k * 5)).block, (ad.add (k * 5)).off + 2, none⟩ = some (.int .i64 la) := fun p => HCK.out [] _ (O.keep.trans p.2 (by simp)) (by simp) 2 (by show 2 < 5; omega)
            have c3 : ∀ p : Later wc, p.1.cell? ⟨(ad.add (k * 5)).block, (ad.add (k * 5)).off + 3, none⟩ = some (.int .i64 lv) := fun p => HCK.out [] _ (O.keep.trans p.2 (by simp)) (by simp) 3 (by show 3 < 5; omega)
            have c4 : ∀ p : Later wc, p.1.cell? ⟨(ad.add (k * 5)).block, (ad.add (k * 5)).off + 4, none⟩ = some (.bool ls) := fun p => HCK.out [] _ (O.keep.trans p.2 (by simp)) (by simp) 4 (by show 4 < 5; omega)
            have c7 : ∀ (p : Later wc) (i : Nat), p.1.cell? ⟨g7, i, none⟩ = #[Value.int .i64 who, .int .i64 op, .int .i64 a, .int .i64 v, .bool sh][i]? := Later.cell (O.get 0 rfl)
            go_upto_region 13 with (fail)
            go_cut [104] (fun s wx => s = .bool sm ∧ Own w wx [] (LI S A c R d g7 a3 ⟨who, op, a, v, sh⟩))
            case first =>
              have q1 : (op == 5) = false := by have h := HOP.out; simpa using (show ¬ op = 5 by omega)
              by_cases h3 : op = 6
              · have qh3 : (op == 6) = true := by simpa using h3
                rcases Bool.eq_false_or_eq_true sh with h4 | h4
                · rw [h4] at c7
                  have HV := Lib.hid (show sm = false by rw [HSM.out]; simp [q1, qh3, h3, h4])
                  clear h3 h4
                  refine wp_quiet_later (by kernel_rfl) (by kernel_rfl) ?_
                  repeat (first
                    | go_big_quiet_skip
                    | go_big_quiet_step (fail))
                  refine wpQuiet_nil ?_
                  intro _ hw
                  obtain ⟨p', rfl⟩ := hw
                  replace O := O.keeps p'.2
                  clear c0 c1 c2 c3 c4 c7 q1 qh3
                  generalize p'.1 = W at O ⊢
                  go_wp2
                  go_meet
                  exact ⟨by rw [HV.out], O⟩
                · rw [h4] at c7
                  by_cases h5 : lo = 6
                  · have qh5 : (lo == 6) = true := by simpa using h5
                    rcases Bool.eq_false_or_eq_true ls with h6 | h6
                    · rw [h6] at c4
                      have HV := Lib.hid (show sm = false by rw [HSM.out]; simp [q1, qh3, h3, h4, qh5, h5, h6])
                      clear h3 h4 h5 h6
                      refine wp_quiet_later (by kernel_rfl) (by kernel_rfl) ?_
                      repeat (first
                        | go_big_quiet_skip
                        | go_big_quiet_step (fail))
                      refine wpQuiet_nil ?_
                      intro _ hw
                      obtain ⟨p', rfl⟩ := hw
                      replace O := O.keeps p'.2
                      clear c0 c1 c2 c3 c4 c7 q1 qh3 qh5
                      generalize p'.1 = W at O ⊢
                      go_wp2
                      go_meet
                      exact ⟨by rw [HV.out], O⟩
                    · rw [h6] at c4
                      by_cases h7 : la = a
                      · have qh7 : (la == a) = true := by simpa using h7
                        have HV := Lib.hid (show sm = true by rw [HSM.out]; simp [q1, qh3, h3, h4, qh5, h5, h6, qh7, h7])
                        clear h3 h4 h5 h6 h7
                        refine wp_quiet_later (by kernel_rfl) (by kernel_rfl) ?_
                        repeat (first
                          | go_big_quiet_skip
                          | go_big_quiet_step (fail))
                        refine wpQuiet_nil ?_
                        intro _ hw
                        obtain ⟨p', rfl⟩ := hw
                        replace O := O.keeps p'.2
                        clear c0 c1 c2 c3 c4 c7 q1 qh3 qh5 qh7
                        generalize p'.1 = W at O ⊢
                        go_wp2
                        go_meet
                        exact ⟨by rw [HV.out], O⟩
                      · have qh7 : (la == a) = false := by simpa using h7
                        have HV := Lib.hid (show sm = false by rw [HSM.out]; simp [q1, qh3, h3, h4, qh5, h5, h6, qh7, h7])
                        clear h3 h4 h5 h6 h7
                        refine wp_quiet_later (by kernel_rfl) (by kernel_rfl) ?_
                        repeat (first
                          | go_big_quiet_skip
                          | go_big_quiet_step (fail))
                        refine wpQuiet_nil ?_
                        intro _ hw
                        obtain ⟨p', rfl⟩ := hw
                        replace O := O.keeps p'.2
                        clear c0 c1 c2 c3 c4 c7 q1 qh3 qh5 qh7
                        generalize p'.1 = W at O ⊢
                        go_wp2
                        go_meet
                        exact ⟨by rw [HV.out], O⟩
                  · have qh5 : (lo == 6) = false := by simpa using h5
                    have HV := Lib.hid (show sm = false by rw [HSM.out]; simp [q1, qh3, h3, h4, qh5, h5])
                    clear h3 h4 h5
                    refine wp_quiet_later (by kernel_rfl) (by kernel_rfl) ?_
                    repeat (first
                      | go_big_quiet_skip
                      | go_big_quiet_step (fail))
                    refine wpQuiet_nil ?_
                    intro _ hw
                    obtain ⟨p', rfl⟩ := hw
                    replace O := O.keeps p'.2
                    clear c0 c1 c2 c3 c4 c7 q1 qh3 qh5
                    generalize p'.1 = W at O ⊢
                    go_wp2
                    go_meet
                    exact ⟨by rw [HV.out], O⟩
              · have qh3 : (op == 6) = false := by simpa using h3
                have HV := Lib.hid (show sm = false by rw [HSM.out]; simp [q1, qh3, h3])
                clear h3
                refine wp_quiet_later (by kernel_rfl) (by kernel_rfl) ?_
                repeat (first
                  | go_big_quiet_skip
                  | go_big_quiet_step (fail))
                refine wpQuiet_nil ?_
                intro _ hw
                obtain ⟨p', rfl⟩ := hw
                replace O := O.keeps p'.2
                clear c0 c1 c2 c3 c4 c7 q1 qh3
                generalize p'.1 = W at O ⊢
                go_wp2
                go_meet
                exact ⟨by rw [HV.out], O⟩
            case rest =>
              obtain ⟨rfl, O⟩ := hcut
              clear c0 c1 c2 c3 c4 c7 HSM
              cases sm with
              | true =>
                go_wp2
                go_roundg (j - (k + 1))
                case measure => (have := HG.out; omega)
                case rel => exact ⟨k + 1, by omega, rfl, by go_num, rfl, rfl, by rw [HPL.out]; go_num, O⟩
              | false =>
                go_wp2
                go_roundg (j - (k + 1))
                case measure => (have := HG.out; omega)
                case rel => exact ⟨k + 1, by omega, rfl, by go_num, rfl, rfl, by rw [HPL.out]; rfl, O⟩
    · obtain rfl : k = j := by omega
      clear HG g1
      obtain ⟨x9, hx9⟩ : ∃ x, x = oI (lastN E who k) := ⟨_, rfl⟩
      obtain ⟨x10, hx10⟩ : ∃ x, x = oI (bornN E who k) := ⟨_, rfl⟩
      obtain ⟨nk, hnk⟩ : ∃ x, x = (pickL (samE E ⟨who, op, a, v, sh⟩) k).length := ⟨_, rfl⟩
      rw [← hx9, ← hx10, ← hnk]
      have HNK := Lib.hid hnk
      have HX9 := Lib.hid hx9
      have HX10 := Lib.hid hx10
      have hnkk : nk ≤ k := by rw [hnk]; exact pickL_length _ _
      clear hx9 hx10 hnk
      go_upto_if 108 with (fail)
      go_cut [8] (fun s8 wx => Own w wx [] (LI S A c R d g7 a3 ⟨who, op, a, v, sh⟩) ∧ Mint w.heap.size wx s8 (ownL (lkN E k) who))
      case first =>
        have M := Mint.nil w.heap.size wr
        cases hl : lastN E who k with
        | some i =>
          have HO := Lib.hid (show ownL (lkN E k) who = [] ++ [x9] by rw [ownL_lk, hl, HX9.out, hl]; rfl)
          have q1 : (0 : Int) ≤ x9 := by rw [HX9.out, hl]; exact (lastN_lt hl).1
          clear hl
          go_wp2_with (first
            | (refine own_lit1 111 (x9) O rfl rfl rfl rfl ?_; clear O; intro W gl O K1 _; replace M := M.keeps K1 (by simp); clear K1; simp only [Act.put, List.setIfInBounds_toArray, List.set_cons_zero, List.set_cons_succ])
            | (at_builtin; refine own_app w.heap.size _ ([]) (x9) gl (.tmp 109) (.tmp 111) (O.drop_ 1) M rfl rfl rfl rfl ((O.get 0 rfl).cell 0) rfl (by simp [LI]) (by simp) ?_; clear O M; intro v1 W O M; simp only [List.drop] at O; simp only [Act.put, List.setIfInBounds_toArray, List.set_cons_zero, List.set_cons_succ]))
          go_meet
          exact ⟨O, by rw [HO.out]; exact M⟩
        | none =>
          have q1 : ¬ (0 : Int) ≤ x9 := by rw [HX9.out, hl]; decide
          cases hb : bornN E who k with
          | some i =>
            have HO := Lib.hid (show ownL (lkN E k) who = [] ++ [x10] by rw [ownL_lk, hl, hb, HX10.out, hb]; rfl)
            have q2 : (0 : Int) ≤ x10 := by rw [HX10.out, hb]; exact (bornN_lt hb).1
            clear hl hb
            go_wp2_with (first
              | (refine own_lit1 117 (x10) O rfl rfl rfl rfl ?_; clear O; intro W gl O K1 _; replace M := M.keeps K1 (by simp); clear K1; simp only [Act.put, List.setIfInBounds_toArray, List.set_cons_zero, List.set_cons_succ])
              | (at_builtin; refine own_app w.heap.size _ ([]) (x10) gl (.tmp 115) (.tmp 117) (O.drop_ 1) M rfl rfl rfl rfl ((O.get 0 rfl).cell 0) rfl (by simp [LI]) (by simp) ?_; clear O M; intro v1 W O M; simp only [List.drop] at O; simp only [Act.put, List.setIfInBounds_toArray, List.set_cons_zero, List.set_cons_succ]))
            go_meet
            exact ⟨O, by rw [HO.out]; exact M⟩
          | none =>
            have HO := Lib.hid (show ownL (lkN E k) who = [] by rw [ownL_lk, hl, hb])
            have q2 : ¬ (0 : Int) ≤ x10 := by rw [HX10.out, hb]; decide
            clear hl hb
            go_wp2
            go_meet
            exact ⟨O, by rw [HO.out]; exact M⟩
      case rest =>
        obtain ⟨O, M⟩ := hcut
        have HOL := Lib.hid (show (ownL (lkN E k) who).length ≤ 1 by rw [ownL_lk]; split <;> (try split) <;> simp)
        clear HX9 HX10
        by_cases o6 : op = 6
        · subst o6
          rcases Bool.eq_false_or_eq_true sh with hs | hs
          · subst hs
            have c7 : ∀ i : Nat, (wc).cell? ⟨g7, i, none⟩ = #[Value.int .i64 who, .int .i64 6, .int .i64 a, .int .i64 v, .bool true][i]? := (O.get 0 rfl).cell
            go_wp2
            clear c7
            go_loopg [8, 13] k (fun g s8 s13 wr => ∃ m, m ≤ k ∧ g = k - m ∧ s13 = .int .i64 (m : Int) ∧ Own w wr [] (LI S A c R d g7 a3 ⟨who, 6, a, v, true⟩) ∧ Mint w.heap.size wr s8 (ownL (lkN E k) who) ∧ shutN E a m = none)
            case atStart => exact ⟨0, by omega, by omega, rfl, O, M, rfl⟩
            case round =>
              obtain ⟨m, hm, hgk, rfl, O, M, hsn⟩ := hrel
              have HSN := Lib.hid hsn
              clear hsn
              have HG := Lib.hid hgk
              clear hgk
              by_cases hlt : m < k
              · have g2 : ((m : Int)) < k := by omega
                have g3 : ((m : Int)) < n := by omega
                have g4 : (0 : Int) ≤ m := by omega
                obtain ⟨ad', e', hc⟩ := EvsAt.row (u := w) HE.out (show m < n by omega)
                cases e'
                obtain ⟨f, hf⟩ : ∃ f, f = E m := ⟨_, rfl⟩
                rw [← hf] at hc
                have HCK := Lib.hid hc
                have HFM := Lib.hid hf
                clear hf hc
                obtain ⟨lw, lo, la, lv, ls⟩ := f
                have c1 : ∀ p : Later wr, p.1.cell? ⟨(ad.add (m * 5)).block, (ad.add (m * 5)).off + 1, none⟩ = some (.int .i64 lo) := fun p => HCK.out [] _ (O.keep.trans p.2 (by simp)) (by simp) 1 (by show 1 < 5; omega)
                have c2 : ∀ p : Later wr, p.1.cell? ⟨(ad.add (m * 5)).block, (ad.add (m * 5)).off + 2, none⟩ = some (.int .i64 la) := fun p => HCK.out [] _ (O.keep.trans p.2 (by simp)) (by simp) 2 (by show 2 < 5; omega)
                have c7 : ∀ (p : Later wr) (i : Nat), p.1.cell? ⟨g7, i, none⟩ = #[Value.int .i64 who, .int .i64 6, .int .i64 a, .int .i64 v, .bool true][i]? := Later.cell (O.get 0 rfl)
                by_cases h1 : lo = 7
                · have q1 : (lo == 7) = true := by simpa using h1
                  by_cases h2 : la = a
                  · have q2 : (la == a) = true := by simpa using h2
                    have HY := Lib.hid (And.intro h1 h2)
                    clear h1 h2
                    go_wp2
                    refine wp_quiet_later (by kernel_rfl) (by kernel_rfl) ?_
                    repeat (first
                      | go_big_quiet_skip
                      | go_big_quiet_step (fail))
                    refine wpQuiet_nil ?_
                    intro _ hw
                    obtain ⟨p', rfl⟩ := hw
                    replace O := O.keeps p'.2
                    replace M := M.keeps p'.2 (by simp)
                    clear c1 c2 c7
                    generalize p'.1 = W at O M ⊢
                    clear q1 q2
                    have HSF := Lib.hid (show shutN E a k = some (m : Int) from shutN_found HSN.out (by rw [← HFM.out]; exact HY.out.1) (by rw [← HFM.out]; exact HY.out.2) hlt)
                    have HRF := Lib.hid (show refM E (rmS S) k ⟨who, 6, a, v, true⟩ = [(m : Int)] by show (shutN E a k).toList = _; rw [HSF.out]; rfl)
                    have c7 : ∀ i : Nat, (W).cell? ⟨g7, i, none⟩ = #[Value.int .i64 who, .int .i64 6, .int .i64 a, .int .i64 v, .bool true][i]? := (O.get 0 rfl).cell
                    go_wp2_with (first
                      | (refine own_lit1 150 ((m : Int)) O rfl rfl rfl rfl ?_; clear O; intro W gl O K1 _; replace M := M.keeps K1 (by simp); clear K1; simp only [Act.put, List.setIfInBounds_toArray, List.set_cons_zero, List.set_cons_succ])
                      | (at_builtin; refine own_app w.heap.size _ ((ownL (lkN E k) who)) ((m : Int)) gl (.tmp 148) (.tmp 150) (O.drop_ 1) M rfl rfl rfl rfl ((O.get 0 rfl).cell 0) rfl (by simp [LI]) (by have := HOL.out; omega) ?_; clear O M; intro v1 W O M; simp only [List.drop] at O; simp only [Act.put, List.setIfInBounds_toArray, List.set_cons_zero, List.set_cons_succ]))
                    clear c7
                    have HXL := Lib.hid (show ((ownL (lkN E k) who) ++ [(m : Int)]).length ≤ 1000000 by have := HOL.out; rw [List.length_append]; simp; omega)
                    go_wp2_with (go_at_call 98; refine (rising_any _ ((ownL (lkN E k) who) ++ [(m : Int)]) HXL.out M.list).mono ?_; rintro e W ⟨⟨r, ys, rfl, MR, HR⟩, K⟩)
                    go_ret
                    refine ⟨⟨_, rfl, mint_low (b := w.heap.size) ?_ O.keep.size⟩, O.keep.trans K (by simp)⟩
                    have hfin := into_rose (E := E) (rm := rmS S) (j := k) (ys := ys) (by rw [← HEJ.out]; rw [show refM E (rmS S) k _ = _ from HRF.out]; exact HR) (fun h6 hs => ok_take HOK.out h6 hs) (fun h6 hs => ok_shut HOK.out h6 hs)
                    rw [← hfin]
                    exact MR
                  · have q2 : (la == a) = false := by simpa using h2
                    have HN := Lib.hid (show ¬ (lo = 7 ∧ la = a) from fun q => h2 q.2)
                    clear h1 h2
                    go_wp2
                    refine wp_quiet_later (by kernel_rfl) (by kernel_rfl) ?_
                    repeat (first
                      | go_big_quiet_skip
                      | go_big_quiet_step (fail))
                    refine wpQuiet_nil ?_
                    intro _ hw
                    obtain ⟨p', rfl⟩ := hw
                    replace O := O.keeps p'.2
                    replace M := M.keeps p'.2 (by simp)
                    clear c1 c2 c7
                    generalize p'.1 = W at O M ⊢
                    clear q1
                    go_wp2
                    go_roundg (k - (m + 1))
                    case measure => (have := HG.out; omega)
                    case rel => exact ⟨m + 1, by omega, rfl, by go_num, O, M, (by rw [shutN, if_neg (fun q => HN.out ⟨(by have := q.1; rw [← HFM.out] at this; exact this), (by have := q.2.1; rw [← HFM.out] at this; exact this)⟩)]; exact HSN.out)⟩
                · have q1 : (lo == 7) = false := by simpa using h1
                  have HN := Lib.hid (show ¬ (lo = 7 ∧ la = a) from fun q => h1 q.1)
                  clear h1
                  go_wp2
                  refine wp_quiet_later (by kernel_rfl) (by kernel_rfl) ?_
                  repeat (first
                    | go_big_quiet_skip
                    | go_big_quiet_step (fail))
                  refine wpQuiet_nil ?_
                  intro _ hw
                  obtain ⟨p', rfl⟩ := hw
                  replace O := O.keeps p'.2
                  replace M := M.keeps p'.2 (by simp)
                  clear c1 c2 c7
                  generalize p'.1 = W at O M ⊢
                  clear q1
                  go_wp2
                  go_roundg (k - (m + 1))
                  case measure => (have := HG.out; omega)
                  case rel => exact ⟨m + 1, by omega, rfl, by go_num, O, M, (by rw [shutN, if_neg (fun q => HN.out ⟨(by have := q.1; rw [← HFM.out] at this; exact this), (by have := q.2.1; rw [← HFM.out] at this; exact this)⟩)]; exact HSN.out)⟩
              · obtain rfl : k = m := by omega
                exfalso
                have h1 := ok_shut HOK.out (by rw [← HEJ.out]) (by rw [← HEJ.out])
                rw [← HEJ.out] at h1
                rw [HSN.out] at h1
                cases h1
          · subst hs
            have c7 : ∀ i : Nat, (wc).cell? ⟨g7, i, none⟩ = #[Value.int .i64 who, .int .i64 6, .int .i64 a, .int .i64 v, .bool false][i]? := (O.get 0 rfl).cell
            have HTK := Lib.hid (HNK.out.trans (by rw [samE_6 E _ rfl rfl]))
            have HRF := Lib.hid (show refM E (rmS S) k ⟨who, 6, a, v, false⟩ = [nthV (isSend E a) k nk] by rw [HTK.out]; rfl)
            obtain ⟨y, hy⟩ : ∃ y, y = nthV (isSend E a) k nk := ⟨_, rfl⟩
            have HY := Lib.hid hy
            clear hy
            have hnk2 : nk ≤ 1000000 := by omega
            go_wp2_with (first
              | go_big_skip
              | (go_at_call 97; refine (nth_5 (HE.out.kept O.keep) hn k (by omega) a nk hnk2).mono ?_; rintro e w' ⟨rfl, rfl⟩; rw [← HY.out])
              | (refine own_lit1 163 (y) O rfl rfl rfl rfl ?_; clear O; intro W gl O K1 _; replace M := M.keeps K1 (by simp); clear K1; simp only [Act.put, List.setIfInBounds_toArray, List.set_cons_zero, List.set_cons_succ])
              | (at_builtin; refine own_app w.heap.size _ ((ownL (lkN E k) who)) (y) gl (.tmp 156) (.tmp 163) (O.drop_ 1) M rfl rfl rfl rfl ((O.get 0 rfl).cell 0) rfl (by simp [LI]) (by have := HOL.out; omega) ?_; clear O M; intro v1 W O M; simp only [List.drop] at O; simp only [Act.put, List.setIfInBounds_toArray, List.set_cons_zero, List.set_cons_succ]))
            clear c7
            have HXL := Lib.hid (show ((ownL (lkN E k) who) ++ [y]).length ≤ 1000000 by have := HOL.out; rw [List.length_append]; simp; omega)
            go_wp2_with (go_at_call 98; refine (rising_any _ ((ownL (lkN E k) who) ++ [y]) HXL.out M.list).mono ?_; rintro e W ⟨⟨r, ys, rfl, MR, HR⟩, K⟩)
            go_ret
            refine ⟨⟨_, rfl, mint_low (b := w.heap.size) ?_ O.keep.size⟩, O.keep.trans K (by simp)⟩
            have hfin := into_rose (E := E) (rm := rmS S) (j := k) (ys := ys) (by rw [← HEJ.out]; rw [show refM E (rmS S) k _ = _ from HRF.out.trans (by rw [← HY.out])]; exact HR) (fun h6 hs => ok_take HOK.out h6 hs) (fun h6 hs => ok_shut HOK.out h6 hs)
            rw [← hfin]
            exact MR
        · by_cases o5 : op = 5
          · exfalso
            have := HOP.out
            omega
          · by_cases o8 : op = 8
            · exfalso
              have := HOP.out
              omega
            · by_cases o11 : op = 11
              · exfalso
                have := HOP.out
                omega
              · exfalso
                have := HOP.out
                omega
end
end Go.Proofs.Ytakmcpadkanggaa

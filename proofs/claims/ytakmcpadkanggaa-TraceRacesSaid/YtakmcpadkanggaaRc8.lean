/-
  Part 8 of what this claim rests on.
-/
import Derived.Test.YtakmcpadkanggaaRc7
namespace Go.Proofs.Ytakmcpadkanggaa
open Go.RowKit Go.Maps Go.Deep
section
variable {w : World} {S : Sys} {A : Option Addr} {c : Nat} {R : Option Addr} {d n : Nat} {E : Nat → Ev} {B : Option Addr} {cb : Nat}
set_option maxRecDepth 100000 in
set_option maxHeartbeats 4000000 in
theorem into_8 (hS : SysIn w S A c R d) (hE : EvsAt w B n E) (hn : n ≤ 40000) (hrm : ∀ q, q < S.nr → 1 ≤ S.rm q ∧ S.rm q ≤ 1000000) (j : Nat) (hj : j < n) (hok : okE S (stN E j) (E j) = true) (hop : (E j).op = 8) : Calls Try.prog 71 #[.agg (sysV S A c R d), .slice B n cb, .int .i64 (j : Int)] w (IntoPost w S E j) := by
  have O := Own.start w []
  have HE := Lib.hid hE
  have g1 : ((j : Nat) : Int) < n := by omega
  have g0 : (0 : Int) ≤ j := by omega
  obtain ⟨ad, rfl, hc⟩ := EvsAt.row (u := w) HE.out hj
  have HC := Lib.hid hc
  obtain ⟨e, he⟩ : ∃ e, e = E j := ⟨_, rfl⟩
  rw [← he] at hc HC hop
  have HEJ := Lib.hid he
  have HRO := Lib.hid hS.rooms
  have HRM := Lib.hid hrm
  have HOK := Lib.hid hok
  clear hc hE he hS hrm hok
  obtain ⟨who, op, a, v, sh⟩ := e
  have HOP := Lib.hid hop
  clear hop
  go_enter Try.func71, Try.ntmps71
  go_wp2_with (first
    | go_big_skip
    | (refine own_box 3 (sysV S A c R d) O rfl rfl rfl rfl ?_; clear O; intro W a3 O; simp only [Act.put, List.setIfInBounds_toArray, List.set_cons_zero, List.set_cons_succ])
    | (refine wpList_load_at 21 rfl rfl rfl rfl (HC.out [] _ O.keep (by simp)) Try.underlying37 rfl (by kernel_rfl) ?_; simp only [Act.put, List.setIfInBounds_toArray, List.set_cons_zero, List.set_cons_succ])
    | (refine own_alloc 7 (evC ⟨0, 0, 0, 0, false⟩) O rfl rfl rfl (fun _ => by kernel_rfl) ?_; clear O; intro W g7 O; simp only [Act.put, List.setIfInBounds_toArray, List.set_cons_zero, List.set_cons_succ])
    | (refine own_store_row 0 (.tmp 7) (.tmp 21) O rfl rfl rfl rfl rfl rfl (by kernel_rfl) (by rfl) (evC_cell _) ?_; clear O; intro W O; simp only [List.set_cons_zero] at O))
  go_loopg [9, 10, 11, 12] j (fun g s9 s10 s11 s12 wr => ∃ k, k ≤ j ∧ g = j - k ∧ s12 = .int .i64 (k : Int) ∧ s9 = .int .i64 (oI (lastN E who k)) ∧ s10 = .int .i64 (oI (bornN E who k)) ∧ s11 = .int .i64 ((pickL (samE E ⟨who, op, a, v, sh⟩) k).length : Int) ∧ Own w wr [] (LI S A c R d g7 a3 ⟨who, op, a, v, sh⟩))
  case atStart => exact ⟨0, by omega, by omega, rfl, rfl, rfl, rfl, O⟩
  case round =>
    obtain ⟨k, hk, hgk, rfl, rfl, rfl, rfl, O⟩ := hrel
    have HG := Lib.hid hgk
    clear hgk
    by_cases hlt : k < j
    · have g2 : ((k : Int)) < j := by omega
      have g3 : ((k : Int)) < n := by omega
      have g4 : (0 : Int) ≤ k := by omega
      obtain ⟨ad', e', hc⟩ := EvsAt.row (u := w) HE.out (show k < n by omega)
      cases e'
      obtain ⟨f, hf⟩ : ∃ f, f = E k := ⟨_, rfl⟩
      rw [← hf] at hc
      have HCK := Lib.hid hc
      have HLN := Lib.hid (show lastN E who (k + 1) = if f.who = who then some (k : Int) else lastN E who k by rw [hf]; rfl)
      have HBN := Lib.hid (show bornN E who (k + 1) = if f.op = 14 ∧ 0 < f.v ∧ f.v = who then some (k : Int) else bornN E who k by rw [hf]; rfl)
      have HSM := Lib.hid (show samE E ⟨who, op, a, v, sh⟩ k = ((((op == 5) && (f.op == 5)) || ((op == 6) && (!sh && ((f.op == 6) && !f.sh)))) && (f.a == a)) by rw [hf]; rfl)
      have HPL := Lib.hid (show (pickL (samE E ⟨who, op, a, v, sh⟩) (k + 1)).length = (pickL (samE E ⟨who, op, a, v, sh⟩) k).length + if samE E ⟨who, op, a, v, sh⟩ k then 1 else 0 by rw [pickL_succ, List.length_append]; split <;> rfl)
      have hpl := pickL_length (samE E ⟨who, op, a, v, sh⟩) k
      generalize samE E ⟨who, op, a, v, sh⟩ k = sm at HSM HPL
      generalize hnk : (pickL (samE E ⟨who, op, a, v, sh⟩) k).length = nk at hpl HPL ⊢
      clear hf hc hnk
      obtain ⟨lw, lo, la, lv, ls⟩ := f
      have c0 : ∀ p : Later wr, p.1.cell? (ad.add (k * 5)) = some (.int .i64 lw) := fun p => HCK.out [] _ (O.keep.trans p.2 (by simp)) (by simp) 0 (by show 0 < 5; omega)
      have c1 : ∀ p : Later wr, p.1.cell? ⟨(ad.add (k * 5)).block, (ad.add (k * 5)).off + 1, none⟩ = some (.int .i64 lo) := fun p => HCK.out [] _ (O.keep.trans p.2 (by simp)) (by simp) 1 (by show 1 < 5; omega)
      have c2 : ∀ p : Later wr, p.1.cell? ⟨(ad.add (k * 5)).block, (ad.add (k * 5)).off + 2, none⟩ = some (.int .i64 la) := fun p => HCK.out [] _ (O.keep.trans p.2 (by simp)) (by simp) 2 (by show 2 < 5; omega)
      have c3 : ∀ p : Later wr, p.1.cell? ⟨(ad.add (k * 5)).block, (ad.add (k * 5)).off + 3, none⟩ = some (.int .i64 lv) := fun p => HCK.out [] _ (O.keep.trans p.2 (by simp)) (by simp) 3 (by show 3 < 5; omega)
      have c4 : ∀ p : Later wr, p.1.cell? ⟨(ad.add (k * 5)).block, (ad.add (k * 5)).off + 4, none⟩ = some (.bool ls) := fun p => HCK.out [] _ (O.keep.trans p.2 (by simp)) (by simp) 4 (by show 4 < 5; omega)
      have c7 : ∀ (p : Later wr) (i : Nat), p.1.cell? ⟨g7, i, none⟩ = #[Value.int .i64 who, .int .i64 op, .int .i64 a, .int .i64 v, .bool sh][i]? := Later.cell (O.get 0 rfl)
      go_upto_region 9 with (fail)
      refine wp_quiet_later (by kernel_rfl) (by kernel_rfl) ?_
      repeat (first
        | go_big_quiet_skip
        | go_big_quiet_step (fail))
      refine wpQuiet_nil ?_
      intro _ hw
      obtain ⟨p', rfl⟩ := hw
      replace O := O.keeps p'.2
      clear c0 c1 c2 c3 c4 c7
      generalize p'.1 = W at O ⊢
      go_upto_if 34 with (fail)
      go_cut [9] (fun s9 wx => s9 = .int .i64 (oI (lastN E who (k + 1))) ∧ Own w wx [] (LI S A c R d g7 a3 ⟨who, op, a, v, sh⟩))
      case first =>
        by_cases h : lw = who
        · have e1 : (lw == who) = true := by simpa using h
          have HN := Lib.hid (HLN.out.trans (if_pos h))
          clear h
          go_wp2
          go_meet
          exact ⟨by rw [HN.out]; rfl, O⟩
        · have e1 : (lw == who) = false := by simpa using h
          have HN := Lib.hid (HLN.out.trans (if_neg h))
          clear h
          go_wp2
          go_meet
          exact ⟨by rw [HN.out], O⟩
      case rest =>
        obtain ⟨rfl, O⟩ := hcut
        clear HLN
        have c0 : ∀ p : Later wc, p.1.cell? (ad.add (k * 5)) = some (.int .i64 lw) := fun p => HCK.out [] _ (O.keep.trans p.2 (by simp)) (by simp) 0 (by show 0 < 5; omega)
        have c1 : ∀ p : Later wc, p.1.cell? ⟨(ad.add (k * 5)).block, (ad.add (k * 5)).off + 1, none⟩ = some (.int .i64 lo) := fun p => HCK.out [] _ (O.keep.trans p.2 (by simp)) (by simp) 1 (by show 1 < 5; omega)
        have c2 : ∀ p : Later wc, p.1.cell? ⟨(ad.add (k * 5)).block, (ad.add (k * 5)).off + 2, none⟩ = some (.int .i64 la) := fun p => HCK.out [] _ (O.keep.trans p.2 (by simp)) (by simp) 2 (by show 2 < 5; omega)
        have c3 : ∀ p : Later wc, p.1.cell? ⟨(ad.add (k * 5)).block, (ad.add (k * 5)).off + 3, none⟩ = some (.int .i64 lv) := fun p => HCK.out [] _ (O.keep.trans p.2 (by simp)) (by simp) 3 (by show 3 < 5; omega)
        have c4 : ∀ p : Later wc, p.1.cell? ⟨(ad.add (k * 5)).block, (ad.add (k * 5)).off + 4, none⟩ = some (.bool ls) := fun p => HCK.out [] _ (O.keep.trans p.2 (by simp)) (by simp) 4 (by show 4 < 5; omega)
        have c7 : ∀ (p : Later wc) (i : Nat), p.1.cell? ⟨g7, i, none⟩ = #[Value.int .i64 who, .int .i64 op, .int .i64 a, .int .i64 v, .bool sh][i]? := Later.cell (O.get 0 rfl)
        obtain ⟨bB, hbB⟩ : ∃ bB, bB = decide (lo = 14 ∧ 0 < lv ∧ lv = who) := ⟨_, rfl⟩
        have HBB := Lib.hid hbB
        clear hbB
        go_upto_region 11 with (fail)
        go_cut [56] (fun s wx => s = .bool bB ∧ Own w wx [] (LI S A c R d g7 a3 ⟨who, op, a, v, sh⟩))
        case first =>
          by_cases h1 : lo = 14
          · have qh1 : (lo == 14) = true := by simpa using h1
            by_cases h2 : lv = who
            · have qh2 : (lv == who) = true := by simpa using h2
              by_cases h3 : 0 < who
              · have qh3 : decide (0 < who) = true := decide_eq_true h3
                have HV := Lib.hid (show bB = true by rw [HBB.out]; simp [qh1, h1, qh2, h2, qh3, h3])
                clear h1 h2 h3
                refine wp_quiet_later (by kernel_rfl) (by kernel_rfl) ?_
                repeat (first
                  | go_big_quiet_skip
                  | go_big_quiet_step (fail))
                refine wpQuiet_nil ?_
                intro _ hw
                obtain ⟨p', rfl⟩ := hw
                replace O := O.keeps p'.2
                clear c0 c1 c2 c3 c4 c7 qh1 qh2 qh3
                generalize p'.1 = W at O ⊢
                go_wp2
                go_meet
                exact ⟨by rw [HV.out], O⟩
              · have qh3 : decide (0 < who) = false := decide_eq_false h3
                have HV := Lib.hid (show bB = false by rw [HBB.out]; simp [qh1, h1, qh2, h2, qh3, h3])
                clear h1 h2 h3
                refine wp_quiet_later (by kernel_rfl) (by kernel_rfl) ?_
                repeat (first
                  | go_big_quiet_skip
                  | go_big_quiet_step (fail))
                refine wpQuiet_nil ?_
                intro _ hw
                obtain ⟨p', rfl⟩ := hw
                replace O := O.keeps p'.2
                clear c0 c1 c2 c3 c4 c7 qh1 qh2 qh3
                generalize p'.1 = W at O ⊢
                go_wp2
                go_meet
                exact ⟨by rw [HV.out], O⟩
            · have qh2 : (lv == who) = false := by simpa using h2
              have HV := Lib.hid (show bB = false by rw [HBB.out]; simp [qh1, h1, qh2, h2])
              clear h1 h2
              refine wp_quiet_later (by kernel_rfl) (by kernel_rfl) ?_
              repeat (first
                | go_big_quiet_skip
                | go_big_quiet_step (fail))
              refine wpQuiet_nil ?_
              intro _ hw
              obtain ⟨p', rfl⟩ := hw
              replace O := O.keeps p'.2
              clear c0 c1 c2 c3 c4 c7 qh1 qh2
              generalize p'.1 = W at O ⊢
              go_wp2
              go_meet
              exact ⟨by rw [HV.out], O⟩
          · have qh1 : (lo == 14) = false := by simpa using h1
            have HV := Lib.hid (show bB = false by rw [HBB.out]; simp [qh1, h1])
            clear h1
            refine wp_quiet_later (by kernel_rfl) (by kernel_rfl) ?_
            repeat (first
              | go_big_quiet_skip
              | go_big_quiet_step (fail))
            refine wpQuiet_nil ?_
            intro _ hw
            obtain ⟨p', rfl⟩ := hw
            replace O := O.keeps p'.2
            clear c0 c1 c2 c3 c4 c7 qh1
            generalize p'.1 = W at O ⊢
            go_wp2
            go_meet
            exact ⟨by rw [HV.out], O⟩
        case rest =>
          obtain ⟨rfl, O⟩ := hcut
          clear c0 c1 c2 c3 c4 c7
          go_upto_if 56 with (fail)
          go_cut [10] (fun s10 wx => s10 = .int .i64 (oI (bornN E who (k + 1))) ∧ Own w wx [] (LI S A c R d g7 a3 ⟨who, op, a, v, sh⟩))
          case first =>
            cases bB with
            | true =>
              have HN := Lib.hid (HBN.out.trans (if_pos (of_decide_eq_true HBB.out.symm)))
              go_wp2
              go_meet
              exact ⟨by rw [HN.out]; rfl, O⟩
            | false =>
              have HN := Lib.hid (HBN.out.trans (if_neg (of_decide_eq_false HBB.out.symm)))
              go_wp2
              go_meet
              exact ⟨by rw [HN.out], O⟩
          case rest =>
            obtain ⟨rfl, O⟩ := hcut
            clear HBN HBB
            have c0 : ∀ p : Later wc, p.1.cell? (ad.add (k * 5)) = some (.int .i64 lw) := fun p => HCK.out [] _ (O.keep.trans p.2 (by simp)) (by simp) 0 (by show 0 < 5; omega)
            have c1 : ∀ p : Later wc, p.1.cell? ⟨(ad.add (k * 5)).block, (ad.add (k * 5)).off + 1, none⟩ = some (.int .i64 lo) := fun p => HCK.out [] _ (O.keep.trans p.2 (by simp)) (by simp) 1 (by show 1 < 5; omega)
            have c2 : ∀ p : Later wc, p.1.cell? ⟨(ad.add (k * 5)).block, (ad.add (k * 5)).off + 2, none⟩ = some (.int .i64 la) := fun p => HCK.out [] _ (O.keep.trans p.2 (by simp)) (by simp) 2 (by show 2 < 5; omega)
            have c3 : ∀ p : Later wc, p.1.cell? ⟨(ad.add (k * 5)).block, (ad.add (k * 5)).off + 3, none⟩ = some (.int .i64 lv) := fun p => HCK.out [] _ (O.keep.trans p.2 (by simp)) (by simp) 3 (by show 3 < 5; omega)
            have c4 : ∀ p : Later wc, p.1.cell? ⟨(ad.add (k * 5)).block, (ad.add (k * 5)).off + 4, none⟩ = some (.bool ls) := fun p => HCK.out [] _ (O.keep.trans p.2 (by simp)) (by simp) 4 (by show 4 < 5; omega)
            have c7 : ∀ (p : Later wc) (i : Nat), p.1.cell? ⟨g7, i, none⟩ = #[Value.int .i64 who, .int .i64 op, .int .i64 a, .int .i64 v, .bool sh][i]? := Later.cell (O.get 0 rfl)
            go_upto_region 13 with (fail)
            go_cut [104] (fun s wx => s = .bool sm ∧ Own w wx [] (LI S A c R d g7 a3 ⟨who, op, a, v, sh⟩))
            case first =>
              have q1 : (op == 5) = false := by have h := HOP.out; simpa using (show ¬ op = 5 by omega)
              have q3 : (op == 6) = false := by have h := HOP.out; simpa using (show ¬ op = 6 by omega)
              have HV := Lib.hid (show sm = false by rw [HSM.out]; simp [q1, q3])
              refine wp_quiet_later (by kernel_rfl) (by kernel_rfl) ?_
              repeat (first
                | go_big_quiet_skip
                | go_big_quiet_step (fail))
              refine wpQuiet_nil ?_
              intro _ hw
              obtain ⟨p', rfl⟩ := hw
              replace O := O.keeps p'.2
              clear c0 c1 c2 c3 c4 c7 q1 q3
              generalize p'.1 = W at O ⊢
              go_wp2
              go_meet
              exact ⟨by rw [HV.out], O⟩
            case rest =>
              obtain ⟨rfl, O⟩ := hcut
              clear c0 c1 c2 c3 c4 c7 HSM
              cases sm with
              | true =>
                go_wp2
                go_roundg (j - (k + 1))
                case measure => (have := HG.out; omega)
                case rel => exact ⟨k + 1, by omega, rfl, by go_num, rfl, rfl, by rw [HPL.out]; go_num, O⟩
              | false =>
                go_wp2
                go_roundg (j - (k + 1))
                case measure => (have := HG.out; omega)
                case rel => exact ⟨k + 1, by omega, rfl, by go_num, rfl, rfl, by rw [HPL.out]; rfl, O⟩
    · obtain rfl : k = j := by omega
      clear HG g1
      obtain ⟨x9, hx9⟩ : ∃ x, x = oI (lastN E who k) := ⟨_, rfl⟩
      obtain ⟨x10, hx10⟩ : ∃ x, x = oI (bornN E who k) := ⟨_, rfl⟩
      obtain ⟨nk, hnk⟩ : ∃ x, x = (pickL (samE E ⟨who, op, a, v, sh⟩) k).length := ⟨_, rfl⟩
      rw [← hx9, ← hx10, ← hnk]
      have HNK := Lib.hid hnk
      have HX9 := Lib.hid hx9
      have HX10 := Lib.hid hx10
      have hnkk : nk ≤ k := by rw [hnk]; exact pickL_length _ _
      clear hx9 hx10 hnk
      go_upto_if 108 with (fail)
      go_cut [8] (fun s8 wx => Own w wx [] (LI S A c R d g7 a3 ⟨who, op, a, v, sh⟩) ∧ Mint w.heap.size wx s8 (ownL (lkN E k) who))
      case first =>
        have M := Mint.nil w.heap.size wr
        cases hl : lastN E who k with
        | some i =>
          have HO := Lib.hid (show ownL (lkN E k) who = [] ++ [x9] by rw [ownL_lk, hl, HX9.out, hl]; rfl)
          have q1 : (0 : Int) ≤ x9 := by rw [HX9.out, hl]; exact (lastN_lt hl).1
          clear hl
          go_wp2_with (first
            | (refine own_lit1 111 (x9) O rfl rfl rfl rfl ?_; clear O; intro W gl O K1 _; replace M := M.keeps K1 (by simp); clear K1; simp only [Act.put, List.setIfInBounds_toArray, List.set_cons_zero, List.set_cons_succ])
            | (at_builtin; refine own_app w.heap.size _ ([]) (x9) gl (.tmp 109) (.tmp 111) (O.drop_ 1) M rfl rfl rfl rfl ((O.get 0 rfl).cell 0) rfl (by simp [LI]) (by simp) ?_; clear O M; intro v1 W O M; simp only [List.drop] at O; simp only [Act.put, List.setIfInBounds_toArray, List.set_cons_zero, List.set_cons_succ]))
          go_meet
          exact ⟨O, by rw [HO.out]; exact M⟩
        | none =>
          have q1 : ¬ (0 : Int) ≤ x9 := by rw [HX9.out, hl]; decide
          cases hb : bornN E who k with
          | some i =>
            have HO := Lib.hid (show ownL (lkN E k) who = [] ++ [x10] by rw [ownL_lk, hl, hb, HX10.out, hb]; rfl)
            have q2 : (0 : Int) ≤ x10 := by rw [HX10.out, hb]; exact (bornN_lt hb).1
            clear hl hb
            go_wp2_with (first
              | (refine own_lit1 117 (x10) O rfl rfl rfl rfl ?_; clear O; intro W gl O K1 _; replace M := M.keeps K1 (by simp); clear K1; simp only [Act.put, List.setIfInBounds_toArray, List.set_cons_zero, List.set_cons_succ])
              | (at_builtin; refine own_app w.heap.size _ ([]) (x10) gl (.tmp 115) (.tmp 117) (O.drop_ 1) M rfl rfl rfl rfl ((O.get 0 rfl).cell 0) rfl (by simp [LI]) (by simp) ?_; clear O M; intro v1 W O M; simp only [List.drop] at O; simp only [Act.put, List.setIfInBounds_toArray, List.set_cons_zero, List.set_cons_succ]))
            go_meet
            exact ⟨O, by rw [HO.out]; exact M⟩
          | none =>
            have HO := Lib.hid (show ownL (lkN E k) who = [] by rw [ownL_lk, hl, hb])
            have q2 : ¬ (0 : Int) ≤ x10 := by rw [HX10.out, hb]; decide
            clear hl hb
            go_wp2
            go_meet
            exact ⟨O, by rw [HO.out]; exact M⟩
      case rest =>
        obtain ⟨O, M⟩ := hcut
        have HOL := Lib.hid (show (ownL (lkN E k) who).length ≤ 1 by rw [ownL_lk]; split <;> (try split) <;> simp)
        clear HX9 HX10
        by_cases o6 : op = 6
        · exfalso
          have := HOP.out
          omega
        · by_cases o5 : op = 5
          · exfalso
            have := HOP.out
            omega
          · by_cases o8 : op = 8
            · subst o8
              have c7 : ∀ i : Nat, (wc).cell? ⟨g7, i, none⟩ = #[Value.int .i64 who, .int .i64 8, .int .i64 a, .int .i64 v, .bool sh][i]? := (O.get 0 rfl).cell
              go_wp2
              clear c7
              go_loopg [14, 15] k (fun g s14 s15 wr => ∃ m, m ≤ k ∧ g = k - m ∧ s15 = .int .i64 (m : Int) ∧ s14 = .int .i64 (aftN E a m : Int) ∧ Own w wr [] (LI S A c R d g7 a3 ⟨who, 8, a, v, sh⟩) ∧ Mint w.heap.size wr u8 (ownL (lkN E k) who))
              case atStart => exact ⟨0, by omega, by omega, rfl, rfl, O, M⟩
              case round =>
                obtain ⟨m, hm, hgk, rfl, rfl, O, M⟩ := hrel
                have HG := Lib.hid hgk
                clear hgk
                by_cases hlt : m < k
                · have g2 : ((m : Int)) < k := by omega
                  have g3 : ((m : Int)) < n := by omega
                  have g4 : (0 : Int) ≤ m := by omega
                  obtain ⟨ad', e', hc⟩ := EvsAt.row (u := w) HE.out (show m < n by omega)
                  cases e'
                  obtain ⟨f, hf⟩ : ∃ f, f = E m := ⟨_, rfl⟩
                  rw [← hf] at hc
                  have HCK := Lib.hid hc
                  have HFM := Lib.hid hf
                  clear hf hc
                  obtain ⟨lw, lo, la, lv, ls⟩ := f
                  have c1 : ∀ p : Later wr, p.1.cell? ⟨(ad.add (m * 5)).block, (ad.add (m * 5)).off + 1, none⟩ = some (.int .i64 lo) := fun p => HCK.out [] _ (O.keep.trans p.2 (by simp)) (by simp) 1 (by show 1 < 5; omega)
                  have c2 : ∀ p : Later wr, p.1.cell? ⟨(ad.add (m * 5)).block, (ad.add (m * 5)).off + 2, none⟩ = some (.int .i64 la) := fun p => HCK.out [] _ (O.keep.trans p.2 (by simp)) (by simp) 2 (by show 2 < 5; omega)
                  have c7 : ∀ (p : Later wr) (i : Nat), p.1.cell? ⟨g7, i, none⟩ = #[Value.int .i64 who, .int .i64 8, .int .i64 a, .int .i64 v, .bool sh][i]? := Later.cell (O.get 0 rfl)
                  by_cases h1 : lo = 8
                  · have q1 : (lo == 8) = true := by simpa using h1
                    by_cases h2 : la = a
                    · have q2 : (la == a) = true := by simpa using h2
                      have HY := Lib.hid (And.intro h1 h2)
                      clear h1 h2
                      go_wp2
                      refine wp_quiet_later (by kernel_rfl) (by kernel_rfl) ?_
                      repeat (first
                        | go_big_quiet_skip
                        | go_big_quiet_step (fail))
                      refine wpQuiet_nil ?_
                      intro _ hw
                      obtain ⟨p', rfl⟩ := hw
                      replace O := O.keeps p'.2
                      replace M := M.keeps p'.2 (by simp)
                      clear c1 c2 c7
                      generalize p'.1 = W at O M ⊢
                      clear q1 q2
                      go_wp2
                      go_roundg (k - (m + 1))
                      case measure => (have := HG.out; omega)
                      case rel => exact ⟨m + 1, by omega, rfl, by go_num, (by rw [aftN, if_pos (by rw [← HFM.out]; exact HY.out)]), O, M⟩
                    · have q2 : (la == a) = false := by simpa using h2
                      have HN := Lib.hid (show ¬ (lo = 8 ∧ la = a) from fun q => h2 q.2)
                      clear h1 h2
                      go_wp2
                      refine wp_quiet_later (by kernel_rfl) (by kernel_rfl) ?_
                      repeat (first
                        | go_big_quiet_skip
                        | go_big_quiet_step (fail))
                      refine wpQuiet_nil ?_
                      intro _ hw
                      obtain ⟨p', rfl⟩ := hw
                      replace O := O.keeps p'.2
                      replace M := M.keeps p'.2 (by simp)
                      clear c1 c2 c7
                      generalize p'.1 = W at O M ⊢
                      clear q1
                      go_wp2
                      go_roundg (k - (m + 1))
                      case measure => (have := HG.out; omega)
                      case rel => exact ⟨m + 1, by omega, rfl, by go_num, (by rw [aftN, if_neg (by rw [← HFM.out]; exact HN.out)]), O, M⟩
                  · have q1 : (lo == 8) = false := by simpa using h1
                    have HN := Lib.hid (show ¬ (lo = 8 ∧ la = a) from fun q => h1 q.1)
                    clear h1
                    go_wp2
                    refine wp_quiet_later (by kernel_rfl) (by kernel_rfl) ?_
                    repeat (first
                      | go_big_quiet_skip
                      | go_big_quiet_step (fail))
                    refine wpQuiet_nil ?_
                    intro _ hw
                    obtain ⟨p', rfl⟩ := hw
                    replace O := O.keeps p'.2
                    replace M := M.keeps p'.2 (by simp)
                    clear c1 c2 c7
                    generalize p'.1 = W at O M ⊢
                    clear q1
                    go_wp2
                    go_roundg (k - (m + 1))
                    case measure => (have := HG.out; omega)
                    case rel => exact ⟨m + 1, by omega, rfl, by go_num, (by rw [aftN, if_neg (by rw [← HFM.out]; exact HN.out)]), O, M⟩
                · obtain rfl : k = m := by omega
                  obtain ⟨af, haf⟩ : ∃ af, af = aftN E a k := ⟨_, rfl⟩
                  have hafl : af ≤ k := by rw [haf]; exact aftN_le E a k
                  rw [← haf]
                  have HAF := Lib.hid haf
                  clear haf HG
                  go_wp2
                  go_loopg [8, 16] (k - af) (fun g s8 s16 wr => ∃ m, m ≤ k ∧ g = k - m ∧ s16 = .int .i64 (m : Int) ∧ af ≤ m ∧ Own w wr [] (LI S A c R d g7 a3 ⟨who, 8, a, v, sh⟩) ∧ Mint w.heap.size wr s8 ((ownL (lkN E k) who) ++ natL (freeL E a af m)))
                  case atStart => exact ⟨af, hafl, by omega, rfl, by omega, O, by rw [freeL_none E a af af (Nat.le_refl _), show natL [] = [] from rfl, List.append_nil]; exact M⟩
                  case round =>
                    obtain ⟨m, hm, hgk, rfl, haf, O, M⟩ := hrel
                    have HG := Lib.hid hgk
                    clear hgk
                    by_cases hlt : m < k
                    · have g2 : ((m : Int)) < k := by omega
                      have g3 : ((m : Int)) < n := by omega
                      have g4 : (0 : Int) ≤ m := by omega
                      obtain ⟨ad', e', hc⟩ := EvsAt.row (u := w) HE.out (show m < n by omega)
                      cases e'
                      obtain ⟨f, hf⟩ : ∃ f, f = E m := ⟨_, rfl⟩
                      rw [← hf] at hc
                      have HCK := Lib.hid hc
                      have HFM := Lib.hid hf
                      clear hf hc
                      obtain ⟨lw, lo, la, lv, ls⟩ := f
                      have c1 : ∀ p : Later wr, p.1.cell? ⟨(ad.add (m * 5)).block, (ad.add (m * 5)).off + 1, none⟩ = some (.int .i64 lo) := fun p => HCK.out [] _ (O.keep.trans p.2 (by simp)) (by simp) 1 (by show 1 < 5; omega)
                      have c2 : ∀ p : Later wr, p.1.cell? ⟨(ad.add (m * 5)).block, (ad.add (m * 5)).off + 2, none⟩ = some (.int .i64 la) := fun p => HCK.out [] _ (O.keep.trans p.2 (by simp)) (by simp) 2 (by show 2 < 5; omega)
                      have c7 : ∀ (p : Later wr) (i : Nat), p.1.cell? ⟨g7, i, none⟩ = #[Value.int .i64 who, .int .i64 8, .int .i64 a, .int .i64 v, .bool sh][i]? := Later.cell (O.get 0 rfl)
                      by_cases h1 : lo = 9
                      · have q1 : (lo == 9) = true := by simpa using h1
                        by_cases h2 : la = a
                        · have q2 : (la == a) = true := by simpa using h2
                          have HY := Lib.hid (And.intro h1 h2)
                          clear h1 h2
                          go_wp2
                          refine wp_quiet_later (by kernel_rfl) (by kernel_rfl) ?_
                          repeat (first
                            | go_big_quiet_skip
                            | go_big_quiet_step (fail))
                          refine wpQuiet_nil ?_
                          intro _ hw
                          obtain ⟨p', rfl⟩ := hw
                          replace O := O.keeps p'.2
                          replace M := M.keeps p'.2 (by simp)
                          clear c1 c2 c7
                          generalize p'.1 = W at O M ⊢
                          clear q1 q2
                          have HFL := Lib.hid (freeL_len (E := E) a af m)
                          go_wp2_with (first
                            | (refine own_lit1 245 ((m : Int)) O rfl rfl rfl rfl ?_; clear O; intro W gl O K1 _; replace M := M.keeps K1 (by simp); clear K1; simp only [Act.put, List.setIfInBounds_toArray, List.set_cons_zero, List.set_cons_succ])
                            | (at_builtin; refine own_app w.heap.size _ ((ownL (lkN E k) who) ++ natL (freeL E a af m)) ((m : Int)) gl (.tmp 243) (.tmp 245) (O.drop_ 1) M rfl rfl rfl rfl ((O.get 0 rfl).cell 0) rfl (by simp [LI]) (by have := HOL.out; have := HFL.out; rw [List.length_append, natL_length]; omega) ?_; clear O M; intro v1 W O M; simp only [List.drop] at O; simp only [Act.put, List.setIfInBounds_toArray, List.set_cons_zero, List.set_cons_succ]))
                          go_roundg (k - (m + 1))
                          case measure => (have := HG.out; omega)
                          case rel => exact ⟨m + 1, by omega, rfl, by go_num, by omega, O, (by rw [freeL_succ, if_pos (by simp [isFree]; rw [← HFM.out]; exact ⟨HY.out, haf⟩), natL_append, ← List.append_assoc]; exact M)⟩
                        · have q2 : (la == a) = false := by simpa using h2
                          have HN := Lib.hid (show ¬ (lo = 9 ∧ la = a) from fun q => h2 q.2)
                          clear h1 h2
                          go_wp2
                          refine wp_quiet_later (by kernel_rfl) (by kernel_rfl) ?_
                          repeat (first
                            | go_big_quiet_skip
                            | go_big_quiet_step (fail))
                          refine wpQuiet_nil ?_
                          intro _ hw
                          obtain ⟨p', rfl⟩ := hw
                          replace O := O.keeps p'.2
                          replace M := M.keeps p'.2 (by simp)
                          clear c1 c2 c7
                          generalize p'.1 = W at O M ⊢
                          clear q1
                          go_wp2
                          go_roundg (k - (m + 1))
                          case measure => (have := HG.out; omega)
                          case rel => exact ⟨m + 1, by omega, rfl, by go_num, by omega, O, (by rw [freeL_succ, if_neg (by simp [isFree]; rw [← HFM.out]; intro q1 q2; exact absurd ⟨q1, q2⟩ HN.out), List.append_nil]; exact M)⟩
                      · have q1 : (lo == 9) = false := by simpa using h1
                        have HN := Lib.hid (show ¬ (lo = 9 ∧ la = a) from fun q => h1 q.1)
                        clear h1
                        go_wp2
                        refine wp_quiet_later (by kernel_rfl) (by kernel_rfl) ?_
                        repeat (first
                          | go_big_quiet_skip
                          | go_big_quiet_step (fail))
                        refine wpQuiet_nil ?_
                        intro _ hw
                        obtain ⟨p', rfl⟩ := hw
                        replace O := O.keeps p'.2
                        replace M := M.keeps p'.2 (by simp)
                        clear c1 c2 c7
                        generalize p'.1 = W at O M ⊢
                        clear q1
                        go_wp2
                        go_roundg (k - (m + 1))
                        case measure => (have := HG.out; omega)
                        case rel => exact ⟨m + 1, by omega, rfl, by go_num, by omega, O, (by rw [freeL_succ, if_neg (by simp [isFree]; rw [← HFM.out]; intro q1 q2; exact absurd ⟨q1, q2⟩ HN.out), List.append_nil]; exact M)⟩
                    · obtain rfl : k = m := by omega
                      have HRF := Lib.hid (show refM E (rmS S) k ⟨who, 8, a, v, sh⟩ = natL (freeL E a af k) by rw [HAF.out]; rfl)
                      have HFL := Lib.hid (freeL_len (E := E) a af k)
                      have HXL := Lib.hid (show ((ownL (lkN E k) who) ++ natL (freeL E a af k)).length ≤ 1000000 by have := HOL.out; have := HFL.out; rw [List.length_append, natL_length]; omega)
                      go_wp2_with (go_at_call 98; refine (rising_any _ ((ownL (lkN E k) who) ++ natL (freeL E a af k)) HXL.out M.list).mono ?_; rintro e W ⟨⟨r, ys, rfl, MR, HR⟩, K⟩)
                      go_ret
                      refine ⟨⟨_, rfl, mint_low (b := w.heap.size) ?_ O.keep.size⟩, O.keep.trans K (by simp)⟩
                      have hfin := into_rose (E := E) (rm := rmS S) (j := k) (ys := ys) (by rw [← HEJ.out]; rw [show refM E (rmS S) k _ = _ from HRF.out]; exact HR) (fun h6 hs => ok_take HOK.out h6 hs) (fun h6 hs => ok_shut HOK.out h6 hs)
                      rw [← hfin]
                      exact MR
            · by_cases o11 : op = 11
              · exfalso
                have := HOP.out
                omega
              · exfalso
                have := HOP.out
                omega
end
end Go.Proofs.Ytakmcpadkanggaa
namespace Go.Proofs.Ytakmcpadkanggaa
open Go.RowKit Go.Maps Go.Deep
section
variable {w : World} {S : Sys} {A : Option Addr} {c : Nat} {R : Option Addr} {d n : Nat} {E : Nat → Ev} {B : Option Addr} {cb : Nat}
set_option maxRecDepth 100000 in
set_option maxHeartbeats 4000000 in
theorem into_o (hS : SysIn w S A c R d) (hE : EvsAt w B n E) (hn : n ≤ 40000) (hrm : ∀ q, q < S.nr → 1 ≤ S.rm q ∧ S.rm q ≤ 1000000) (j : Nat) (hj : j < n) (hok : okE S (stN E j) (E j) = true) (hop : (E j).op ≠ 6 ∧ (E j).op ≠ 5 ∧ (E j).op ≠ 8 ∧ (E j).op ≠ 11) : Calls Try.prog 71 #[.agg (sysV S A c R d), .slice B n cb, .int .i64 (j : Int)] w (IntoPost w S E j) := by
  have O := Own.start w []
  have HE := Lib.hid hE
  have g1 : ((j : Nat) : Int) < n := by omega
  have g0 : (0 : Int) ≤ j := by omega
  obtain ⟨ad, rfl, hc⟩ := EvsAt.row (u := w) HE.out hj
  have HC := Lib.hid hc
  obtain ⟨e, he⟩ : ∃ e, e = E j := ⟨_, rfl⟩
  rw [← he] at hc HC hop
  have HEJ := Lib.hid he
  have HRO := Lib.hid hS.rooms
  have HRM := Lib.hid hrm
  have HOK := Lib.hid hok
  clear hc hE he hS hrm hok
  obtain ⟨who, op, a, v, sh⟩ := e
  have HOP := Lib.hid hop
  clear hop
  go_enter Try.func71, Try.ntmps71
  go_wp2_with (first
    | go_big_skip
    | (refine own_box 3 (sysV S A c R d) O rfl rfl rfl rfl ?_; clear O; intro W a3 O; simp only [Act.put, List.setIfInBounds_toArray, List.set_cons_zero, List.set_cons_succ])
    | (refine wpList_load_at 21 rfl rfl rfl rfl (HC.out [] _ O.keep (by simp)) Try.underlying37 rfl (by kernel_rfl) ?_; simp only [Act.put, List.setIfInBounds_toArray, List.set_cons_zero, List.set_cons_succ])
    | (refine own_alloc 7 (evC ⟨0, 0, 0, 0, false⟩) O rfl rfl rfl (fun _ => by kernel_rfl) ?_; clear O; intro W g7 O; simp only [Act.put, List.setIfInBounds_toArray, List.set_cons_zero, List.set_cons_succ])
    | (refine own_store_row 0 (.tmp 7) (.tmp 21) O rfl rfl rfl rfl rfl rfl (by kernel_rfl) (by rfl) (evC_cell _) ?_; clear O; intro W O; simp only [List.set_cons_zero] at O))
  go_loopg [9, 10, 11, 12] j (fun g s9 s10 s11 s12 wr => ∃ k, k ≤ j ∧ g = j - k ∧ s12 = .int .i64 (k : Int) ∧ s9 = .int .i64 (oI (lastN E who k)) ∧ s10 = .int .i64 (oI (bornN E who k)) ∧ s11 = .int .i64 ((pickL (samE E ⟨who, op, a, v, sh⟩) k).length : Int) ∧ Own w wr [] (LI S A c R d g7 a3 ⟨who, op, a, v, sh⟩))
  case atStart => exact ⟨0, by omega, by omega, rfl, rfl, rfl, rfl, O⟩
  case round =>
    obtain ⟨k, hk, hgk, rfl, rfl, rfl, rfl, O⟩ := hrel
    have HG := Lib.hid hgk
    clear hgk
    by_cases hlt : k < j
    · have g2 : ((k : Int)) < j := by omega
      have g3 : ((k : Int)) < n := by omega
      have g4 : (0 : Int) ≤ k := by omega
      obtain ⟨ad', e', hc⟩ := EvsAt.row (u := w) HE.out (show k < n by omega)
      cases e'
      obtain ⟨f, hf⟩ : ∃ f, f = E k := ⟨_, rfl⟩
      rw [← hf] at hc
      have HCK := Lib.hid hc
      have HLN := Lib.hid (show lastN E who (k + 1) = if f.who = who then some (k : Int) else lastN E who k by rw [hf]; rfl)
      have HBN := Lib.hid (show bornN E who (k + 1) = if f.op = 14 ∧ 0 < f.v ∧ f.v = who then some (k : Int) else bornN E who k by rw [hf]; rfl)
      have HSM := Lib.hid (show samE E ⟨who, op, a, v, sh⟩ k = ((((op == 5) && (f.op == 5)) || ((op == 6) && (!sh && ((f.op == 6) && !f.sh)))) && (f.a == a)) by rw [hf]; rfl)
      have HPL := Lib.hid (show (pickL (samE E ⟨who, op, a, v, sh⟩) (k + 1)).length = (pickL (samE E ⟨who, op, a, v, sh⟩) k).length + if samE E ⟨who, op, a, v, sh⟩ k then 1 else 0 by rw [pickL_succ, List.length_append]; split <;> rfl)
      have hpl := pickL_length (samE E ⟨who, op, a, v, sh⟩) k
      generalize samE E ⟨who, op, a, v, sh⟩ k = sm at HSM HPL
      generalize hnk : (pickL (samE E ⟨who, op, a, v, sh⟩) k).length = nk at hpl HPL ⊢
      clear hf hc hnk
      obtain ⟨lw, lo, la, lv, ls⟩ := f
      have c0 : ∀ p : Later wr, p.1.cell? (ad.add (k * 5)) = some (.int .i64 lw) := fun p => HCK.out [] _ (O.keep.trans p.2 (by simp)) (by simp) 0 (by show 0 < 5; omega)
      have c1 : ∀ p : Later wr, p.1.cell? ⟨(ad.add (k * 5)).block, (ad.add (k * 5)).off + 1, none⟩ = some (.int .i64 lo) := fun p => HCK.out [] _ (O.keep.trans p.2 (by simp)) (by simp) 1 (by show 1 < 5; omega)
      have c2 : ∀ p : Later wr, p.1.cell? ⟨(ad.add (k * 5)).block, (ad.add (k * 5)).off + 2, none⟩ = some (.int .i64 la) := fun p => HCK.out [] _ (O.keep.trans p.2 (by simp)) (by simp) 2 (by show 2 < 5; omega)
      have c3 : ∀ p : Later wr, p.1.cell? ⟨(ad.add (k * 5)).block, (ad.add (k * 5)).off + 3, none⟩ = some (.int .i64 lv) := fun p => HCK.out [] _ (O.keep.trans p.2 (by simp)) (by simp) 3 (by show 3 < 5; omega)
      have c4 : ∀ p : Later wr, p.1.cell? ⟨(ad.add (k * 5)).block, (ad.add (k * 5)).off + 4, none⟩ = some (.bool ls) := fun p => HCK.out [] _ (O.keep.trans p.2 (by simp)) (by simp) 4 (by show 4 < 5; omega)
      have c7 : ∀ (p : Later wr) (i : Nat), p.1.cell? ⟨g7, i, none⟩ = #[Value.int .i64 who, .int .i64 op, .int .i64 a, .int .i64 v, .bool sh][i]? := Later.cell (O.get 0 rfl)
      go_upto_region 9 with (fail)
      refine wp_quiet_later (by kernel_rfl) (by kernel_rfl) ?_
      repeat (first
        | go_big_quiet_skip
        | go_big_quiet_step (fail))
      refine wpQuiet_nil ?_
      intro _ hw
      obtain ⟨p', rfl⟩ := hw
      replace O := O.keeps p'.2
      clear c0 c1 c2 c3 c4 c7
      generalize p'.1 = W at O ⊢
      go_upto_if 34 with (fail)
      go_cut [9] (fun s9 wx => s9 = .int .i64 (oI (lastN E who (k + 1))) ∧ Own w wx [] (LI S A c R d g7 a3 ⟨who, op, a, v, sh⟩))
      case first =>
        by_cases h : lw = who
        · have e1 : (lw == who) = true := by simpa using h
          have HN := Lib.hid (HLN.out.trans (if_pos h))
          clear h
          go_wp2
          go_meet
          exact ⟨by rw [HN.out]; rfl, O⟩
        · have e1 : (lw == who) = false := by simpa using h
          have HN := Lib.hid (HLN.out.trans (if_neg h))
          clear h
          go_wp2
          go_meet
          exact ⟨by rw [HN.out], O⟩
      case rest =>
        obtain ⟨rfl, O⟩ := hcut
        clear HLN
        have c0 : ∀ p : Later wc, p.1.cell? (ad.add (k * 5)) = some (.int .i64 lw) := fun p => HCK.out [] _ (O.keep.trans p.2 (by simp)) (by simp) 0 (by show 0 < 5; omega)
        have c1 : ∀ p : Later wc, p.1.cell? ⟨(ad.add (k * 5)).block, (ad.add (k * 5)).off + 1, none⟩ = some (.int .i64 lo) := fun p => HCK.out [] _ (O.keep.trans p.2 (by simp)) (by simp) 1 (by show 1 < 5; omega)
        have c2 : ∀ p : Later wc, p.1.cell? ⟨(ad.add (k * 5)).block, (ad.add (k * 5)).off + 2, none⟩ = some (.int .i64 la) := fun p => HCK.out [] _ (O.keep.trans p.2 (by simp)) (by simp) 2 (by show 2 < 5; omega)
        have c3 : ∀ p : Later wc, p.1.cell? ⟨(ad.add (k * 5)).block, (ad.add (k * 5)).off + 3, none⟩ = some (.int .i64 lv) := fun p => HCK.out [] _ (O.keep.trans p.2 (by simp)) (by simp) 3 (by show 3 < 5; omega)
        have c4 : ∀ p : Later wc, p.1.cell? ⟨(ad.add (k * 5)).block, (ad.add (k * 5)).off + 4, none⟩ = some (.bool ls) := fun p => HCK.out [] _ (O.keep.trans p.2 (by simp)) (by simp) 4 (by show 4 < 5; omega)
        have c7 : ∀ (p : Later wc) (i : Nat), p.1.cell? ⟨g7, i, none⟩ = #[Value.int .i64 who, .int .i64 op, .int .i64 a, .int .i64 v, .bool sh][i]? := Later.cell (O.get 0 rfl)
        obtain ⟨bB, hbB⟩ : ∃ bB, bB = decide (lo = 14 ∧ 0 < lv ∧ lv = who) := ⟨_, rfl⟩
        have HBB := Lib.hid hbB
        clear hbB
        go_upto_region 11 with (fail)
        go_cut [56] (fun s wx => s = .bool bB ∧ Own w wx [] (LI S A c R d g7 a3 ⟨who, op, a, v, sh⟩))
        case first =>
          by_cases h1 : lo = 14
          · have qh1 : (lo == 14) = true := by simpa using h1
            by_cases h2 : lv = who
            · have qh2 : (lv == who) = true := by simpa using h2
              by_cases h3 : 0 < who
              · have qh3 : decide (0 < who) = true := decide_eq_true h3
                have HV := Lib.hid (show bB = true by rw [HBB.out]; simp [qh1, h1, qh2, h2, qh3, h3])
                clear h1 h2 h3
                refine wp_quiet_later (by kernel_rfl) (by kernel_rfl) ?_
                repeat (first
                  | go_big_quiet_skip
                  | go_big_quiet_step (fail))
                refine wpQuiet_nil ?_
                intro _ hw
                obtain ⟨p', rfl⟩ := hw
                replace O := O.keeps p'.2
                clear c0 c1 c2 c3 c4 c7 qh1 qh2 qh3
                generalize p'.1 = W at O ⊢
                go_wp2
                go_meet
                exact ⟨by rw [HV.out], O⟩
              · have qh3 : decide (0 < who) = false := decide_eq_false h3
                have HV := Lib.hid (show bB = false by rw [HBB.out]; simp [qh1, h1, qh2, h2, qh3, h3])
                clear h1 h2 h3
                refine wp_quiet_later (by kernel_rfl) (by kernel_rfl) ?_
                repeat (first
                  | go_big_quiet_skip
                  | go_big_quiet_step (fail))
                refine wpQuiet_nil ?_
                intro _ hw
                obtain ⟨p', rfl⟩ := hw
                replace O := O.keeps p'.2
                clear c0 c1 c2 c3 c4 c7 qh1 qh2 qh3
                generalize p'.1 = W at O ⊢
                go_wp2
                go_meet
                exact ⟨by rw [HV.out], O⟩
            · have qh2 : (lv == who) = false := by simpa using h2
              have HV := Lib.hid (show bB = false by rw [HBB.out]; simp [qh1, h1, qh2, h2])
              clear h1 h2
              refine wp_quiet_later (by kernel_rfl) (by kernel_rfl) ?_
              repeat (first
                | go_big_quiet_skip
                | go_big_quiet_step (fail))
              refine wpQuiet_nil ?_
              intro _ hw
              obtain ⟨p', rfl⟩ := hw
              replace O := O.keeps p'.2
              clear c0 c1 c2 c3 c4 c7 qh1 qh2
              generalize p'.1 = W at O ⊢
              go_wp2
              go_meet
              exact ⟨by rw [HV.out], O⟩
          · have qh1 : (lo == 14) = false := by simpa using h1
            have HV := Lib.hid (show bB = false by rw [HBB.out]; simp [qh1, h1])
            clear h1
            refine wp_quiet_later (by kernel_rfl) (by kernel_rfl) ?_
            repeat (first
              | go_big_quiet_skip
              | go_big_quiet_step (fail))
            refine wpQuiet_nil ?_
            intro _ hw
            obtain ⟨p', rfl⟩ := hw
            replace O := O.keeps p'.2
            clear c0 c1 c2 c3 c4 c7 qh1
            generalize p'.1 = W at O ⊢
            go_wp2
            go_meet
            exact ⟨by rw [HV.out], O⟩
        case rest =>
          obtain ⟨rfl, O⟩ := hcut
          clear c0 c1 c2 c3 c4 c7
          go_upto_if 56 with (fail)
          go_cut [10] (fun s10 wx => s10 = .int .i64 (oI (bornN E who (k + 1))) ∧ Own w wx [] (LI S A c R d g7 a3 ⟨who, op, a, v, sh⟩))
          case first =>
            cases bB with
            | true =>
              have HN := Lib.hid (HBN.out.trans (if_pos (of_decide_eq_true HBB.out.symm)))
              go_wp2
              go_meet
              exact ⟨by rw [HN.out]; rfl, O⟩
            | false =>
              have HN := Lib.hid (HBN.out.trans (if_neg (of_decide_eq_false HBB.out.symm)))
              go_wp2
              go_meet
              exact ⟨by rw [HN.out], O⟩
          case rest =>
            obtain ⟨rfl, O⟩ := hcut
            clear HBN HBB
            have c0 : ∀ p : Later wc, p.1.cell? (ad.add (k * 5)) = some (.int .i64 lw) := fun p => HCK.out [] _ (O.keep.trans p.2 (by simp)) (by simp) 0 (by show 0 < 5; omega)
            have c1 : ∀ p : Later wc, p.1.cell? ⟨(ad.add (k * 5)).block, (ad.add (k * 5)).off + 1, none⟩ = some (.int .i64 lo) := fun p => HCK.out [] _ (O.keep.trans p.2 (by simp)) (by simp) 1 (by show 1 < 5; omega)
            have c2 : ∀ p : Later wc, p.1.cell? ⟨(ad.add (k * 5)).block, (ad.add (k * 5)).off + 2, none⟩ = some (.int .i64 la) := fun p => HCK.out [] _ (O.keep.trans p.2 (by simp)) (by simp) 2 (by show 2 < 5; omega)
            have c3 : ∀ p : Later wc, p.1.cell? ⟨(ad.add (k * 5)).block, (ad.add (k * 5)).off + 3, none⟩ = some (.int .i64 lv) := fun p => HCK.out [] _ (O.keep.trans p.2 (by simp)) (by simp) 3 (by show 3 < 5; omega)
            have c4 : ∀ p : Later wc, p.1.cell? ⟨(ad.add (k * 5)).block, (ad.add (k * 5)).off + 4, none⟩ = some (.bool ls) := fun p => HCK.out [] _ (O.keep.trans p.2 (by simp)) (by simp) 4 (by show 4 < 5; omega)
            have c7 : ∀ (p : Later wc) (i : Nat), p.1.cell? ⟨g7, i, none⟩ = #[Value.int .i64 who, .int .i64 op, .int .i64 a, .int .i64 v, .bool sh][i]? := Later.cell (O.get 0 rfl)
            go_upto_region 13 with (fail)
            go_cut [104] (fun s wx => s = .bool sm ∧ Own w wx [] (LI S A c R d g7 a3 ⟨who, op, a, v, sh⟩))
            case first =>
              have q1 : (op == 5) = false := by have h := HOP.out; simpa using (show ¬ op = 5 by omega)
              have q3 : (op == 6) = false := by have h := HOP.out; simpa using (show ¬ op = 6 by omega)
              have HV := Lib.hid (show sm = false by rw [HSM.out]; simp [q1, q3])
              refine wp_quiet_later (by kernel_rfl) (by kernel_rfl) ?_
              repeat (first
                | go_big_quiet_skip
                | go_big_quiet_step (fail))
              refine wpQuiet_nil ?_
              intro _ hw
              obtain ⟨p', rfl⟩ := hw
              replace O := O.keeps p'.2
              clear c0 c1 c2 c3 c4 c7 q1 q3
              generalize p'.1 = W at O ⊢
              go_wp2
              go_meet
              exact ⟨by rw [HV.out], O⟩
            case rest =>
              obtain ⟨rfl, O⟩ := hcut
              clear c0 c1 c2 c3 c4 c7 HSM
              cases sm with
              | true =>
                go_wp2
                go_roundg (j - (k + 1))
                case measure => (have := HG.out; omega)
                case rel => exact ⟨k + 1, by omega, rfl, by go_num, rfl, rfl, by rw [HPL.out]; go_num, O⟩
              | false =>
                go_wp2
                go_roundg (j - (k + 1))
                case measure => (have := HG.out; omega)
                case rel => exact ⟨k + 1, by omega, rfl, by go_num, rfl, rfl, by rw [HPL.out]; rfl, O⟩
    · obtain rfl : k = j := by omega
      clear HG g1
      obtain ⟨x9, hx9⟩ : ∃ x, x = oI (lastN E who k) := ⟨_, rfl⟩
      obtain ⟨x10, hx10⟩ : ∃ x, x = oI (bornN E who k) := ⟨_, rfl⟩
      obtain ⟨nk, hnk⟩ : ∃ x, x = (pickL (samE E ⟨who, op, a, v, sh⟩) k).length := ⟨_, rfl⟩
      rw [← hx9, ← hx10, ← hnk]
      have HNK := Lib.hid hnk
      have HX9 := Lib.hid hx9
      have HX10 := Lib.hid hx10
      have hnkk : nk ≤ k := by rw [hnk]; exact pickL_length _ _
      clear hx9 hx10 hnk
      go_upto_if 108 with (fail)
      go_cut [8] (fun s8 wx => Own w wx [] (LI S A c R d g7 a3 ⟨who, op, a, v, sh⟩) ∧ Mint w.heap.size wx s8 (ownL (lkN E k) who))
      case first =>
        have M := Mint.nil w.heap.size wr
        cases hl : lastN E who k with
        | some i =>
          have HO := Lib.hid (show ownL (lkN E k) who = [] ++ [x9] by rw [ownL_lk, hl, HX9.out, hl]; rfl)
          have q1 : (0 : Int) ≤ x9 := by rw [HX9.out, hl]; exact (lastN_lt hl).1
          clear hl
          go_wp2_with (first
            | (refine own_lit1 111 (x9) O rfl rfl rfl rfl ?_; clear O; intro W gl O K1 _; replace M := M.keeps K1 (by simp); clear K1; simp only [Act.put, List.setIfInBounds_toArray, List.set_cons_zero, List.set_cons_succ])
            | (at_builtin; refine own_app w.heap.size _ ([]) (x9) gl (.tmp 109) (.tmp 111) (O.drop_ 1) M rfl rfl rfl rfl ((O.get 0 rfl).cell 0) rfl (by simp [LI]) (by simp) ?_; clear O M; intro v1 W O M; simp only [List.drop] at O; simp only [Act.put, List.setIfInBounds_toArray, List.set_cons_zero, List.set_cons_succ]))
          go_meet
          exact ⟨O, by rw [HO.out]; exact M⟩
        | none =>
          have q1 : ¬ (0 : Int) ≤ x9 := by rw [HX9.out, hl]; decide
          cases hb : bornN E who k with
          | some i =>
            have HO := Lib.hid (show ownL (lkN E k) who = [] ++ [x10] by rw [ownL_lk, hl, hb, HX10.out, hb]; rfl)
            have q2 : (0 : Int) ≤ x10 := by rw [HX10.out, hb]; exact (bornN_lt hb).1
            clear hl hb
            go_wp2_with (first
              | (refine own_lit1 117 (x10) O rfl rfl rfl rfl ?_; clear O; intro W gl O K1 _; replace M := M.keeps K1 (by simp); clear K1; simp only [Act.put, List.setIfInBounds_toArray, List.set_cons_zero, List.set_cons_succ])
              | (at_builtin; refine own_app w.heap.size _ ([]) (x10) gl (.tmp 115) (.tmp 117) (O.drop_ 1) M rfl rfl rfl rfl ((O.get 0 rfl).cell 0) rfl (by simp [LI]) (by simp) ?_; clear O M; intro v1 W O M; simp only [List.drop] at O; simp only [Act.put, List.setIfInBounds_toArray, List.set_cons_zero, List.set_cons_succ]))
            go_meet
            exact ⟨O, by rw [HO.out]; exact M⟩
          | none =>
            have HO := Lib.hid (show ownL (lkN E k) who = [] by rw [ownL_lk, hl, hb])
            have q2 : ¬ (0 : Int) ≤ x10 := by rw [HX10.out, hb]; decide
            clear hl hb
            go_wp2
            go_meet
            exact ⟨O, by rw [HO.out]; exact M⟩
      case rest =>
        obtain ⟨O, M⟩ := hcut
        have HOL := Lib.hid (show (ownL (lkN E k) who).length ≤ 1 by rw [ownL_lk]; split <;> (try split) <;> simp)
        clear HX9 HX10
        by_cases o6 : op = 6
        · exfalso
          have := HOP.out
          omega
        · by_cases o5 : op = 5
          · exfalso
            have := HOP.out
            omega
          · by_cases o8 : op = 8
            · exfalso
              have := HOP.out
              omega
            · by_cases o11 : op = 11
              · exfalso
                have := HOP.out
                omega
              · have HRF := Lib.hid (show refM E (rmS S) k ⟨who, op, a, v, sh⟩ = [] by simp [refM, o6, o5, o8, o11])
                have q6 : (op == 6) = false := by simpa using o6
                have q5 : (op == 5) = false := by simpa using o5
                have q8 : (op == 8) = false := by simpa using o8
                have q11 : (op == 11) = false := by simpa using o11
                clear o6 o5 o8 o11
                have c7 : ∀ i : Nat, (wc).cell? ⟨g7, i, none⟩ = #[Value.int .i64 who, .int .i64 op, .int .i64 a, .int .i64 v, .bool sh][i]? := (O.get 0 rfl).cell
                rw [← List.append_nil (ownL (lkN E k) who)] at M
                have HXL := Lib.hid (show ((ownL (lkN E k) who) ++ []).length ≤ 1000000 by have := HOL.out; rw [List.append_nil]; omega)
                go_wp2_with (first | go_big_skip | go_at_call 98; refine (rising_any _ ((ownL (lkN E k) who) ++ []) HXL.out M.list).mono ?_; rintro e W ⟨⟨r, ys, rfl, MR, HR⟩, K⟩)
                go_ret
                refine ⟨⟨_, rfl, mint_low (b := w.heap.size) ?_ O.keep.size⟩, O.keep.trans K (by simp)⟩
                have hfin := into_rose (E := E) (rm := rmS S) (j := k) (ys := ys) (by rw [← HEJ.out]; rw [show refM E (rmS S) k _ = _ from HRF.out]; exact HR) (fun h6 hs => ok_take HOK.out h6 hs) (fun h6 hs => ok_shut HOK.out h6 hs)
                rw [← hfin]
                exact MR
end
end Go.Proofs.Ytakmcpadkanggaa
namespace Go.Proofs.Ytakmcpadkanggaa
open Go.RowKit Go.Maps Go.Deep
section
variable {w : World} {S : Sys} {A : Option Addr} {c : Nat} {R : Option Addr} {d n : Nat} {E : Nat → Ev} {B : Option Addr} {cb : Nat}
set_option maxRecDepth 100000 in
set_option maxHeartbeats 4000000 in
theorem into_11 (hS : SysIn w S A c R d) (hE : EvsAt w B n E) (hn : n ≤ 40000) (hrm : ∀ q, q < S.nr → 1 ≤ S.rm q ∧ S.rm q ≤ 1000000) (j : Nat) (hj : j < n) (hok : okE S (stN E j) (E j) = true) (hop : (E j).op = 11) : Calls Try.prog 71 #[.agg (sysV S A c R d), .slice B n cb, .int .i64 (j : Int)] w (IntoPost w S E j) := by
  have O := Own.start w []
  have HE := Lib.hid hE
  have g1 : ((j : Nat) : Int) < n := by omega
  have g0 : (0 : Int) ≤ j := by omega
  obtain ⟨ad, rfl, hc⟩ := EvsAt.row (u := w) HE.out hj
  have HC := Lib.hid hc
  obtain ⟨e, he⟩ : ∃ e, e = E j := ⟨_, rfl⟩
  rw [← he] at hc HC hop
  have HEJ := Lib.hid he
  have HRO := Lib.hid hS.rooms
  have HRM := Lib.hid hrm
  have HOK := Lib.hid hok
  clear hc hE he hS hrm hok
  obtain ⟨who, op, a, v, sh⟩ := e
  have HOP := Lib.hid hop
  clear hop
  go_enter Try.func71, Try.ntmps71
  go_wp2_with (first
    | go_big_skip
    | (refine own_box 3 (sysV S A c R d) O rfl rfl rfl rfl ?_; clear O; intro W a3 O; simp only [Act.put, List.setIfInBounds_toArray, List.set_cons_zero, List.set_cons_succ])
    | (refine wpList_load_at 21 rfl rfl rfl rfl (HC.out [] _ O.keep (by simp)) Try.underlying37 rfl (by kernel_rfl) ?_; simp only [Act.put, List.setIfInBounds_toArray, List.set_cons_zero, List.set_cons_succ])
    | (refine own_alloc 7 (evC ⟨0, 0, 0, 0, false⟩) O rfl rfl rfl (fun _ => by kernel_rfl) ?_; clear O; intro W g7 O; simp only [Act.put, List.setIfInBounds_toArray, List.set_cons_zero, List.set_cons_succ])
    | (refine own_store_row 0 (.tmp 7) (.tmp 21) O rfl rfl rfl rfl rfl rfl (by kernel_rfl) (by rfl) (evC_cell _) ?_; clear O; intro W O; simp only [List.set_cons_zero] at O))
  go_loopg [9, 10, 11, 12] j (fun g s9 s10 s11 s12 wr => ∃ k, k ≤ j ∧ g = j - k ∧ s12 = .int .i64 (k : Int) ∧ s9 = .int .i64 (oI (lastN E who k)) ∧ s10 = .int .i64 (oI (bornN E who k)) ∧ s11 = .int .i64 ((pickL (samE E ⟨who, op, a, v, sh⟩) k).length : Int) ∧ Own w wr [] (LI S A c R d g7 a3 ⟨who, op, a, v, sh⟩))
  case atStart => exact ⟨0, by omega, by omega, rfl, rfl, rfl, rfl, O⟩
  case round =>
    obtain ⟨k, hk, hgk, rfl, rfl, rfl, rfl, O⟩ := hrel
    have HG := Lib.hid hgk
    clear hgk
    by_cases hlt : k < j
    · have g2 : ((k : Int)) < j := by omega
      have g3 : ((k : Int)) < n := by omega
      have g4 : (0 : Int) ≤ k := by omega
      obtain ⟨ad', e', hc⟩ := EvsAt.row (u := w) HE.out (show k < n by omega)
      cases e'
      obtain ⟨f, hf⟩ : ∃ f, f = E k := ⟨_, rfl⟩
      rw [← hf] at hc
      have HCK := Lib.hid hc
      have HLN := Lib.hid (show lastN E who (k + 1) = if f.who = who then some (k : Int) else lastN E who k by rw [hf]; rfl)
      have HBN := Lib.hid (show bornN E who (k + 1) = if f.op = 14 ∧ 0 < f.v ∧ f.v = who then some (k : Int) else bornN E who k by rw [hf]; rfl)
      have HSM := Lib.hid (show samE E ⟨who, op, a, v, sh⟩ k = ((((op == 5) && (f.op == 5)) || ((op == 6) && (!sh && ((f.op == 6) && !f.sh)))) && (f.a == a)) by rw [hf]; rfl)
      have HPL := Lib.hid (show (pickL (samE E ⟨who, op, a, v, sh⟩) (k + 1)).length = (pickL (samE E ⟨who, op, a, v, sh⟩) k).length + if samE E ⟨who, op, a, v, sh⟩ k then 1 else 0 by rw [pickL_succ, List.length_append]; split <;> rfl)
      have hpl := pickL_length (samE E ⟨who, op, a, v, sh⟩) k
      generalize samE E ⟨who, op, a, v, sh⟩ k = sm at HSM HPL
      generalize hnk : (pickL (samE E ⟨who, op, a, v, sh⟩) k).length = nk at hpl HPL ⊢
      clear hf hc hnk
      obtain ⟨lw, lo, la, lv, ls⟩ := f
      have c0 : ∀ p : Later wr, p.1.cell? (ad.add (k * 5)) = some (.int .i64 lw) := fun p => HCK.out [] _ (O.keep.trans p.2 (by simp)) (by simp) 0 (by show 0 < 5; omega)
      have c1 : ∀ p : Later wr, p.1.cell? ⟨(ad.add (k * 5)).block, (ad.add (k * 5)).off + 1, none⟩ = some (.int .i64 lo) := fun p => HCK.out [] _ (O.keep.trans p.2 (by simp)) (by simp) 1 (by show 1 < 5; omega)
      have c2 : ∀ p : Later wr, p.1.cell? ⟨(ad.add (k * 5)).block, (ad.add (k * 5)).off + 2, none⟩ = some (.int .i64 la) := fun p => HCK.out [] _ (O.keep.trans p.2 (by simp)) (by simp) 2 (by show 2 < 5; omega)
      have c3 : ∀ p : Later wr, p.1.cell? ⟨(ad.add (k * 5)).block, (ad.add (k * 5)).off + 3, none⟩ = some (.int .i64 lv) := fun p => HCK.out [] _ (O.keep.trans p.2 (by simp)) (by simp) 3 (by show 3 < 5; omega)
      have c4 : ∀ p : Later wr, p.1.cell? ⟨(ad.add (k * 5)).block, (ad.add (k * 5)).off + 4, none⟩ = some (.bool ls) := fun p => HCK.out [] _ (O.keep.trans p.2 (by simp)) (by simp) 4 (by show 4 < 5; omega)
      have c7 : ∀ (p : Later wr) (i : Nat), p.1.cell? ⟨g7, i, none⟩ = #[Value.int .i64 who, .int .i64 op, .int .i64 a, .int .i64 v, .bool sh][i]? := Later.cell (O.get 0 rfl)
      go_upto_region 9 with (fail)
      refine wp_quiet_later (by kernel_rfl) (by kernel_rfl) ?_
      repeat (first
        | go_big_quiet_skip
        | go_big_quiet_step (fail))
      refine wpQuiet_nil ?_
      intro _ hw
      obtain ⟨p', rfl⟩ := hw
      replace O := O.keeps p'.2
      clear c0 c1 c2 c3 c4 c7
      generalize p'.1 = W at O ⊢
      go_upto_if 34 with (fail)
      go_cut [9] (fun s9 wx => s9 = .int .i64 (oI (lastN E who (k + 1))) ∧ Own w wx [] (LI S A c R d g7 a3 ⟨who, op, a, v, sh⟩))
      case first =>
        by_cases h : lw = who
        · have e1 : (lw == who) = true := by simpa using h
          have HN := Lib.hid (HLN.out.trans (if_pos h))
          clear h
          go_wp2
          go_meet
          exact ⟨by rw [HN.out]; rfl, O⟩
        · have e1 : (lw == who) = false := by simpa using h
          have HN := Lib.hid (HLN.out.trans (if_neg h))
          clear h
          go_wp2
          go_meet
          exact ⟨by rw [HN.out], O⟩
      case rest =>
        obtain ⟨rfl, O⟩ := hcut
        clear HLN
        have c0 : ∀ p : Later wc, p.1.cell? (ad.add (k * 5)) = some (.int .i64 lw) := fun p => HCK.out [] _ (O.keep.trans p.2 (by simp)) (by simp) 0 (by show 0 < 5; omega)
        have c1 : ∀ p : Later wc, p.1.cell? ⟨(ad.add (k * 5)).block, (ad.add (k * 5)).off + 1, none⟩ = some (.int .i64 lo) := fun p => HCK.out [] _ (O.keep.trans p.2 (by simp)) (by simp) 1 (by show 1 < 5; omega)
        have c2 : ∀ p : Later wc, p.1.cell? ⟨(ad.add (k * 5)).block, (ad.add (k * 5)).off + 2, none⟩ = some (.int .i64 la) := fun p => HCK.out [] _ (O.keep.trans p.2 (by simp)) (by simp) 2 (by show 2 < 5; omega)
        have c3 : ∀ p : Later wc, p.1.cell? ⟨(ad.add (k * 5)).block, (ad.add (k * 5)).off + 3, none⟩ = some (.int .i64 lv) := fun p => HCK.out [] _ (O.keep.trans p.2 (by simp)) (by simp) 3 (by show 3 < 5; omega)
        have c4 : ∀ p : Later wc, p.1.cell? ⟨(ad.add (k * 5)).block, (ad.add (k * 5)).off + 4, none⟩ = some (.bool ls) := fun p => HCK.out [] _ (O.keep.trans p.2 (by simp)) (by simp) 4 (by show 4 < 5; omega)
        have c7 : ∀ (p : Later wc) (i : Nat), p.1.cell? ⟨g7, i, none⟩ = #[Value.int .i64 who, .int .i64 op, .int .i64 a, .int .i64 v, .bool sh][i]? := Later.cell (O.get 0 rfl)
        obtain ⟨bB, hbB⟩ : ∃ bB, bB = decide (lo = 14 ∧ 0 < lv ∧ lv = who) := ⟨_, rfl⟩
        have HBB := Lib.hid hbB
        clear hbB
        go_upto_region 11 with (fail)
        go_cut [56] (fun s wx => s = .bool bB ∧ Own w wx [] (LI S A c R d g7 a3 ⟨who, op, a, v, sh⟩))
        case first =>
          by_cases h1 : lo = 14
          · have qh1 : (lo == 14) = true := by simpa using h1
            by_cases h2 : lv = who
            · have qh2 : (lv == who) = true := by simpa using h2
              by_cases h3 : 0 < who
              · have qh3 : decide (0 < who) = true := decide_eq_true h3
                have HV := Lib.hid (show bB = true by rw [HBB.out]; simp [qh1, h1, qh2, h2, qh3, h3])
                clear h1 h2 h3
                refine wp_quiet_later (by kernel_rfl) (by kernel_rfl) ?_
                repeat (first
                  | go_big_quiet_skip
                  | go_big_quiet_step (fail))
                refine wpQuiet_nil ?_
                intro _ hw
                obtain ⟨p', rfl⟩ := hw
                replace O := O.keeps p'.2
                clear c0 c1 c2 c3 c4 c7 qh1 qh2 qh3
                generalize p'.1 = W at O ⊢
                go_wp2
                go_meet
                exact ⟨by rw [HV.out], O⟩
              · have qh3 : decide (0 < who) = false := decide_eq_false h3
                have HV := Lib.hid (show bB = false by rw [HBB.out]; simp [qh1, h1, qh2, h2, qh3, h3])
                clear h1 h2 h3
                refine wp_quiet_later (by kernel_rfl) (by kernel_rfl) ?_
                repeat (first
                  | go_big_quiet_skip
                  | go_big_quiet_step (fail))
                refine wpQuiet_nil ?_
                intro _ hw
                obtain ⟨p', rfl⟩ := hw
                replace O := O.keeps p'.2
                clear c0 c1 c2 c3 c4 c7 qh1 qh2 qh3
                generalize p'.1 = W at O ⊢
                go_wp2
                go_meet
                exact ⟨by rw [HV.out], O⟩
            · have qh2 : (lv == who) = false := by simpa using h2
              have HV := Lib.hid (show bB = false by rw [HBB.out]; simp [qh1, h1, qh2, h2])
              clear h1 h2
              refine wp_quiet_later (by kernel_rfl) (by kernel_rfl) ?_
              repeat (first
                | go_big_quiet_skip
                | go_big_quiet_step (fail))
              refine wpQuiet_nil ?_
              intro _ hw
              obtain ⟨p', rfl⟩ := hw
              replace O := O.keeps p'.2
              clear c0 c1 c2 c3 c4 c7 qh1 qh2
              generalize p'.1 = W at O ⊢
              go_wp2
              go_meet
              exact ⟨by rw [HV.out], O⟩
          · have qh1 : (lo == 14) = false := by simpa using h1
            have HV := Lib.hid (show bB = false by rw [HBB.out]; simp [qh1, h1])
            clear h1
            refine wp_quiet_later (by kernel_rfl) (by kernel_rfl) ?_
            repeat (first
              | go_big_quiet_skip
              | go_big_quiet_step (fail))
            refine wpQuiet_nil ?_
            intro _ hw
            obtain ⟨p', rfl⟩ := hw
            replace O := O.keeps p'.2
            clear c0 c1 c2 c3 c4 c7 qh1
            generalize p'.1 = W at O ⊢
            go_wp2
            go_meet
            exact ⟨by rw [HV.out], O⟩
        case rest =>
          obtain ⟨rfl, O⟩ := hcut
          clear c0 c1 c2 c3 c4 c7
          go_upto_if 56 with (fail)
          go_cut [10] (fun s10 wx => s10 = .int .i64 (oI (bornN E who (k + 1))) ∧ Own w wx [] (LI S A c R d g7 a3 ⟨who, op, a, v, sh⟩))
          case first =>
            cases bB with
            | true =>
              have HN := Lib.hid (HBN.out.trans (if_pos (of_decide_eq_true HBB.out.symm)))
              go_wp2
              go_meet
              exact ⟨by rw [HN.out]; rfl, O⟩
            | false =>
              have HN := Lib.hid (HBN.out.trans (if_neg (of_decide_eq_false HBB.out.symm)))
              go_wp2
              go_meet
              exact ⟨by rw [HN.out], O⟩
          case rest =>
            obtain ⟨rfl, O⟩ := hcut
            clear HBN HBB
            have c0 : ∀ p : Later wc, p.1.cell? (ad.add (k * 5)) = some (.int .i64 lw) := fun p => HCK.out [] _ (O.keep.trans p.2 (by simp)) (by simp) 0 (by show 0 < 5; omega)
            have c1 : ∀ p : Later wc, p.1.cell? ⟨(ad.add (k * 5)).block, (ad.add (k * 5)).off + 1, none⟩ = some (.int .i64 lo) := fun p => HCK.out [] _ (O.keep.trans p.2 (by simp)) (by simp) 1 (by show 1 < 5; omega)
            have c2 : ∀ p : Later wc, p.1.cell? ⟨(ad.add (k * 5)).block, (ad.add (k * 5)).off + 2, none⟩ = some (.int .i64 la) := fun p => HCK.out [] _ (O.keep.trans p.2 (by simp)) (by simp) 2 (by show 2 < 5; omega)
            have c3 : ∀ p : Later wc, p.1.cell? ⟨(ad.add (k * 5)).block, (ad.add (k * 5)).off + 3, none⟩ = some (.int .i64 lv) := fun p => HCK.out [] _ (O.keep.trans p.2 (by simp)) (by simp) 3 (by show 3 < 5; omega)
            have c4 : ∀ p : Later wc, p.1.cell? ⟨(ad.add (k * 5)).block, (ad.add (k * 5)).off + 4, none⟩ = some (.bool ls) := fun p => HCK.out [] _ (O.keep.trans p.2 (by simp)) (by simp) 4 (by show 4 < 5; omega)
            have c7 : ∀ (p : Later wc) (i : Nat), p.1.cell? ⟨g7, i, none⟩ = #[Value.int .i64 who, .int .i64 op, .int .i64 a, .int .i64 v, .bool sh][i]? := Later.cell (O.get 0 rfl)
            go_upto_region 13 with (fail)
            go_cut [104] (fun s wx => s = .bool sm ∧ Own w wx [] (LI S A c R d g7 a3 ⟨who, op, a, v, sh⟩))
            case first =>
              have q1 : (op == 5) = false := by have h := HOP.out; simpa using (show ¬ op = 5 by omega)
              have q3 : (op == 6) = false := by have h := HOP.out; simpa using (show ¬ op = 6 by omega)
              have HV := Lib.hid (show sm = false by rw [HSM.out]; simp [q1, q3])
              refine wp_quiet_later (by kernel_rfl) (by kernel_rfl) ?_
              repeat (first
                | go_big_quiet_skip
                | go_big_quiet_step (fail))
              refine wpQuiet_nil ?_
              intro _ hw
              obtain ⟨p', rfl⟩ := hw
              replace O := O.keeps p'.2
              clear c0 c1 c2 c3 c4 c7 q1 q3
              generalize p'.1 = W at O ⊢
              go_wp2
              go_meet
              exact ⟨by rw [HV.out], O⟩
            case rest =>
              obtain ⟨rfl, O⟩ := hcut
              clear c0 c1 c2 c3 c4 c7 HSM
              cases sm with
              | true =>
                go_wp2
                go_roundg (j - (k + 1))
                case measure => (have := HG.out; omega)
                case rel => exact ⟨k + 1, by omega, rfl, by go_num, rfl, rfl, by rw [HPL.out]; go_num, O⟩
              | false =>
                go_wp2
                go_roundg (j - (k + 1))
                case measure => (have := HG.out; omega)
                case rel => exact ⟨k + 1, by omega, rfl, by go_num, rfl, rfl, by rw [HPL.out]; rfl, O⟩
    · obtain rfl : k = j := by omega
      clear HG g1
      obtain ⟨x9, hx9⟩ : ∃ x, x = oI (lastN E who k) := ⟨_, rfl⟩
      obtain ⟨x10, hx10⟩ : ∃ x, x = oI (bornN E who k) := ⟨_, rfl⟩
      obtain ⟨nk, hnk⟩ : ∃ x, x = (pickL (samE E ⟨who, op, a, v, sh⟩) k).length := ⟨_, rfl⟩
      rw [← hx9, ← hx10, ← hnk]
      have HNK := Lib.hid hnk
      have HX9 := Lib.hid hx9
      have HX10 := Lib.hid hx10
      have hnkk : nk ≤ k := by rw [hnk]; exact pickL_length _ _
      clear hx9 hx10 hnk
      go_upto_if 108 with (fail)
      go_cut [8] (fun s8 wx => Own w wx [] (LI S A c R d g7 a3 ⟨who, op, a, v, sh⟩) ∧ Mint w.heap.size wx s8 (ownL (lkN E k) who))
      case first =>
        have M := Mint.nil w.heap.size wr
        cases hl : lastN E who k with
        | some i =>
          have HO := Lib.hid (show ownL (lkN E k) who = [] ++ [x9] by rw [ownL_lk, hl, HX9.out, hl]; rfl)
          have q1 : (0 : Int) ≤ x9 := by rw [HX9.out, hl]; exact (lastN_lt hl).1
          clear hl
          go_wp2_with (first
            | (refine own_lit1 111 (x9) O rfl rfl rfl rfl ?_; clear O; intro W gl O K1 _; replace M := M.keeps K1 (by simp); clear K1; simp only [Act.put, List.setIfInBounds_toArray, List.set_cons_zero, List.set_cons_succ])
            | (at_builtin; refine own_app w.heap.size _ ([]) (x9) gl (.tmp 109) (.tmp 111) (O.drop_ 1) M rfl rfl rfl rfl ((O.get 0 rfl).cell 0) rfl (by simp [LI]) (by simp) ?_; clear O M; intro v1 W O M; simp only [List.drop] at O; simp only [Act.put, List.setIfInBounds_toArray, List.set_cons_zero, List.set_cons_succ]))
          go_meet
          exact ⟨O, by rw [HO.out]; exact M⟩
        | none =>
          have q1 : ¬ (0 : Int) ≤ x9 := by rw [HX9.out, hl]; decide
          cases hb : bornN E who k with
          | some i =>
            have HO := Lib.hid (show ownL (lkN E k) who = [] ++ [x10] by rw [ownL_lk, hl, hb, HX10.out, hb]; rfl)
            have q2 : (0 : Int) ≤ x10 := by rw [HX10.out, hb]; exact (bornN_lt hb).1
            clear hl hb
            go_wp2_with (first
              | (refine own_lit1 117 (x10) O rfl rfl rfl rfl ?_; clear O; intro W gl O K1 _; replace M := M.keeps K1 (by simp); clear K1; simp only [Act.put, List.setIfInBounds_toArray, List.set_cons_zero, List.set_cons_succ])
              | (at_builtin; refine own_app w.heap.size _ ([]) (x10) gl (.tmp 115) (.tmp 117) (O.drop_ 1) M rfl rfl rfl rfl ((O.get 0 rfl).cell 0) rfl (by simp [LI]) (by simp) ?_; clear O M; intro v1 W O M; simp only [List.drop] at O; simp only [Act.put, List.setIfInBounds_toArray, List.set_cons_zero, List.set_cons_succ]))
            go_meet
            exact ⟨O, by rw [HO.out]; exact M⟩
          | none =>
            have HO := Lib.hid (show ownL (lkN E k) who = [] by rw [ownL_lk, hl, hb])
            have q2 : ¬ (0 : Int) ≤ x10 := by rw [HX10.out, hb]; decide
            clear hl hb
            go_wp2
            go_meet
            exact ⟨O, by rw [HO.out]; exact M⟩
      case rest =>
        obtain ⟨O, M⟩ := hcut
        have HOL := Lib.hid (show (ownL (lkN E k) who).length ≤ 1 by rw [ownL_lk]; split <;> (try split) <;> simp)
        clear HX9 HX10
        by_cases o6 : op = 6
        · exfalso
          have := HOP.out
          omega
        · by_cases o5 : op = 5
          · exfalso
            have := HOP.out
            omega
          · by_cases o8 : op = 8
            · exfalso
              have := HOP.out
              omega
            · by_cases o11 : op = 11
              · subst o11
                have c7 : ∀ i : Nat, (wc).cell? ⟨g7, i, none⟩ = #[Value.int .i64 who, .int .i64 11, .int .i64 a, .int .i64 v, .bool sh][i]? := (O.get 0 rfl).cell
                go_wp2
                clear c7
                go_loopg [8, 17] k (fun g s8 s17 wr => ∃ m, m ≤ k ∧ g = k - m ∧ s17 = .int .i64 (m : Int) ∧ Own w wr [] (LI S A c R d g7 a3 ⟨who, 11, a, v, sh⟩) ∧ Mint w.heap.size wr s8 ((ownL (lkN E k) who) ++ natL (pickL (isAdd E a) m)))
                case atStart => exact ⟨0, by omega, by omega, rfl, O, by rw [show natL (pickL (isAdd E a) 0) = [] from rfl, List.append_nil]; exact M⟩
                case round =>
                  obtain ⟨m, hm, hgk, rfl, O, M⟩ := hrel
                  have HG := Lib.hid hgk
                  clear hgk
                  by_cases hlt : m < k
                  · have g2 : ((m : Int)) < k := by omega
                    have g3 : ((m : Int)) < n := by omega
                    have g4 : (0 : Int) ≤ m := by omega
                    obtain ⟨ad', e', hc⟩ := EvsAt.row (u := w) HE.out (show m < n by omega)
                    cases e'
                    obtain ⟨f, hf⟩ : ∃ f, f = E m := ⟨_, rfl⟩
                    rw [← hf] at hc
                    have HCK := Lib.hid hc
                    have HFM := Lib.hid hf
                    clear hf hc
                    obtain ⟨lw, lo, la, lv, ls⟩ := f
                    have c1 : ∀ p : Later wr, p.1.cell? ⟨(ad.add (m * 5)).block, (ad.add (m * 5)).off + 1, none⟩ = some (.int .i64 lo) := fun p => HCK.out [] _ (O.keep.trans p.2 (by simp)) (by simp) 1 (by show 1 < 5; omega)
                    have c2 : ∀ p : Later wr, p.1.cell? ⟨(ad.add (m * 5)).block, (ad.add (m * 5)).off + 2, none⟩ = some (.int .i64 la) := fun p => HCK.out [] _ (O.keep.trans p.2 (by simp)) (by simp) 2 (by show 2 < 5; omega)
                    have c7 : ∀ (p : Later wr) (i : Nat), p.1.cell? ⟨g7, i, none⟩ = #[Value.int .i64 who, .int .i64 11, .int .i64 a, .int .i64 v, .bool sh][i]? := Later.cell (O.get 0 rfl)
                    by_cases h1 : lo = 10
                    · have q1 : (lo == 10) = true := by simpa using h1
                      by_cases h2 : la = a
                      · have q2 : (la == a) = true := by simpa using h2
                        have HY := Lib.hid (And.intro h1 h2)
                        clear h1 h2
                        go_wp2
                        refine wp_quiet_later (by kernel_rfl) (by kernel_rfl) ?_
                        repeat (first
                          | go_big_quiet_skip
                          | go_big_quiet_step (fail))
                        refine wpQuiet_nil ?_
                        intro _ hw
                        obtain ⟨p', rfl⟩ := hw
                        replace O := O.keeps p'.2
                        replace M := M.keeps p'.2 (by simp)
                        clear c1 c2 c7
                        generalize p'.1 = W at O M ⊢
                        clear q1 q2
                        have HFL := Lib.hid (pickL_length (isAdd E a) m)
                        go_wp2_with (first
                          | (refine own_lit1 274 ((m : Int)) O rfl rfl rfl rfl ?_; clear O; intro W gl O K1 _; replace M := M.keeps K1 (by simp); clear K1; simp only [Act.put, List.setIfInBounds_toArray, List.set_cons_zero, List.set_cons_succ])
                          | (at_builtin; refine own_app w.heap.size _ ((ownL (lkN E k) who) ++ natL (pickL (isAdd E a) m)) ((m : Int)) gl (.tmp 272) (.tmp 274) (O.drop_ 1) M rfl rfl rfl rfl ((O.get 0 rfl).cell 0) rfl (by simp [LI]) (by have := HOL.out; have := HFL.out; rw [List.length_append, natL_length]; omega) ?_; clear O M; intro v1 W O M; simp only [List.drop] at O; simp only [Act.put, List.setIfInBounds_toArray, List.set_cons_zero, List.set_cons_succ]))
                        go_roundg (k - (m + 1))
                        case measure => (have := HG.out; omega)
                        case rel => exact ⟨m + 1, by omega, rfl, by go_num, O, (by rw [pickL_succ, if_pos (by simp [isAdd]; rw [← HFM.out]; exact HY.out), natL_append, ← List.append_assoc]; exact M)⟩
                      · have q2 : (la == a) = false := by simpa using h2
                        have HN := Lib.hid (show ¬ (lo = 10 ∧ la = a) from fun q => h2 q.2)
                        clear h1 h2
                        go_wp2
                        refine wp_quiet_later (by kernel_rfl) (by kernel_rfl) ?_
                        repeat (first
                          | go_big_quiet_skip
                          | go_big_quiet_step (fail))
                        refine wpQuiet_nil ?_
                        intro _ hw
                        obtain ⟨p', rfl⟩ := hw
                        replace O := O.keeps p'.2
                        replace M := M.keeps p'.2 (by simp)
                        clear c1 c2 c7
                        generalize p'.1 = W at O M ⊢
                        clear q1
                        go_wp2
                        go_roundg (k - (m + 1))
                        case measure => (have := HG.out; omega)
                        case rel => exact ⟨m + 1, by omega, rfl, by go_num, O, (by rw [pickL_succ, if_neg (by simp [isAdd]; rw [← HFM.out]; intro q1 q2; exact absurd ⟨q1, q2⟩ HN.out), List.append_nil]; exact M)⟩
                    · have q1 : (lo == 10) = false := by simpa using h1
                      have HN := Lib.hid (show ¬ (lo = 10 ∧ la = a) from fun q => h1 q.1)
                      clear h1
                      go_wp2
                      refine wp_quiet_later (by kernel_rfl) (by kernel_rfl) ?_
                      repeat (first
                        | go_big_quiet_skip
                        | go_big_quiet_step (fail))
                      refine wpQuiet_nil ?_
                      intro _ hw
                      obtain ⟨p', rfl⟩ := hw
                      replace O := O.keeps p'.2
                      replace M := M.keeps p'.2 (by simp)
                      clear c1 c2 c7
                      generalize p'.1 = W at O M ⊢
                      clear q1
                      go_wp2
                      go_roundg (k - (m + 1))
                      case measure => (have := HG.out; omega)
                      case rel => exact ⟨m + 1, by omega, rfl, by go_num, O, (by rw [pickL_succ, if_neg (by simp [isAdd]; rw [← HFM.out]; intro q1 q2; exact absurd ⟨q1, q2⟩ HN.out), List.append_nil]; exact M)⟩
                  · obtain rfl : k = m := by omega
                    have HRF := Lib.hid (show refM E (rmS S) k ⟨who, 11, a, v, sh⟩ = natL (pickL (isAdd E a) k) from rfl)
                    have HFL := Lib.hid (pickL_length (isAdd E a) k)
                    have HXL := Lib.hid (show ((ownL (lkN E k) who) ++ natL (pickL (isAdd E a) k)).length ≤ 1000000 by have := HOL.out; have := HFL.out; rw [List.length_append, natL_length]; omega)
                    go_wp2_with (go_at_call 98; refine (rising_any _ ((ownL (lkN E k) who) ++ natL (pickL (isAdd E a) k)) HXL.out M.list).mono ?_; rintro e W ⟨⟨r, ys, rfl, MR, HR⟩, K⟩)
                    go_ret
                    refine ⟨⟨_, rfl, mint_low (b := w.heap.size) ?_ O.keep.size⟩, O.keep.trans K (by simp)⟩
                    have hfin := into_rose (E := E) (rm := rmS S) (j := k) (ys := ys) (by rw [← HEJ.out]; rw [show refM E (rmS S) k _ = _ from HRF.out]; exact HR) (fun h6 hs => ok_take HOK.out h6 hs) (fun h6 hs => ok_shut HOK.out h6 hs)
                    rw [← hfin]
                    exact MR
              · exfalso
                have := HOP.out
                omega
end
end Go.Proofs.Ytakmcpadkanggaa
namespace Go.Proofs.Ytakmcpadkanggaa
open Go.RowKit Go.Maps Go.Deep
section
variable {w : World} {S : Sys} {A : Option Addr} {c : Nat} {R : Option Addr} {d n : Nat} {E : Nat → Ev} {B : Option Addr} {cb : Nat}
theorem into_any (hS : SysIn w S A c R d) (hE : EvsAt w B n E) (hn : n ≤ 40000) (hrm : ∀ q, q < S.nr → 1 ≤ S.rm q ∧ S.rm q ≤ 1000000) (j : Nat) (hj : j < n) (hok : okE S (stN E j) (E j) = true) : Calls Try.prog 71 #[.agg (sysV S A c R d), .slice B n cb, .int .i64 (j : Int)] w (IntoPost w S E j) := by
  by_cases h6 : (E j).op = 6
  · exact into_6 hS hE hn hrm j hj hok h6
  · by_cases h5 : (E j).op = 5
    · exact into_5 hS hE hn hrm j hj hok h5
    · by_cases h8 : (E j).op = 8
      · exact into_8 hS hE hn hrm j hj hok h8
      · by_cases h11 : (E j).op = 11
        · exact into_11 hS hE hn hrm j hj hok h11
        · exact into_o hS hE hn hrm j hj hok ⟨h6, h5, h8, h11⟩
end
end Go.Proofs.Ytakmcpadkanggaa
namespace Go.Proofs.Ytakmcpadkanggaa
open Go.RowKit Go.Maps Go.Deep
section
variable {ops : Array Oper} {rest : List Oper} {o : Oper} {a : Act} {w W : World} {Q : Exit → Act → World → Prop} {S : List Nat} {L : List Ent} {g t : Nat} {ty : TypeId} {cs cs' : Array Value}
theorem own_storeK (k i : Nat) (v : Value) (y z : Operand) (O : Own w W S L) (hgd : o.guard = none) (hdst : o.dst = none) (ho : o.op = .store ty y z) (hy : a.eval y = .pointer (some ⟨g, i, none⟩)) (hz : a.eval z = v) (hk : L[k]? = some (g, t, cs))
    (hi : i < cs.size) (hx : v.cells = #[v]) (h1 : v.oneCell' = true) (hs : (Try.prog.info? ty).map (·.size) = some 1) (he : cs.setIfInBounds i v = cs')
    (h : ∀ u, Own w u S (L.set k (g, t, cs')) → Keeps W u [g] → wpList Try.prog ops Q rest a u) : wpList Try.prog ops Q (o :: rest) a W :=
  wpList_store_blk g i t cs v hgd hdst ho hy hz (O.get k hk) hi hx h1 hs fun u kp b => h u (O.set k hk kp (by rw [← he]; exact b)) kp
end
end Go.Proofs.Ytakmcpadkanggaa
namespace Go.Proofs.Ytakmcpadkanggaa
open Go.RowKit Go.Maps Go.Deep
theorem arrI_congr {n : Nat} {f g : Int → Int} (h : ∀ i : Nat, i < n → f i = g i) : arrI n f = arrI n g := by
  apply Array.ext_getElem?
  intro i
  by_cases hi : i < n
  · rw [arrI_get _ _ _ hi, arrI_get _ _ _ hi, h i hi]
  · simp [arrI, hi]
theorem mx_snoc {E : Nat → Ev} {rm : Int → Int} (l : List Int) (x : Int) (w : Int) : mxC E rm (l ++ [x]) w = max (mxC E rm l w) (clk E rm x w) := by
  rw [mx_split, mx_one]
/-- What is laid in of the first q of the events from which edges lead. -/
theorem acc_succ {E : Nat → Ev} {rm : Int → Int} {r : Nat} {xs : List Int} {q : Nat} (hq : q < xs.length) : arrI r (jmax (mxC E rm (xs.take q)) (rowOf r (clk E rm (xs.getD q 0))) r) = arrI r (mxC E rm (xs.take (q + 1))) :=
  arrI_congr fun i hi => by
    unfold jmax
    rw [if_pos (by omega), Int.toNat_natCast, rowOf_get _ _ _ hi, List.take_succ_eq_append_getElem hq, mx_snoc, List.getD_eq_getElem?_getD, List.getElem?_eq_getElem hq]
    rfl
section
variable {w : World} {S : Sys} {A : Option Addr} {c : Nat} {R : Option Addr} {d n : Nat} {E : Nat → Ev} {B : Option Addr} {cb : Nat}
theorem grid_rowP {base r k : Nat} {W : World} {v : Value} {nb cp : Nat → Nat} {F : Nat → Int → Int} {ad : Addr} {cv : Nat} (G : GridAt base W v k r nb cp F) (hv : v = .slice (some ad) k cv) {i : Nat} (hi : i < k) : W.cell? (ad.add i) = some (.slice (some ⟨nb i, 0, none⟩) r (cp i)) :=
  (gr_cell G.row hv (gridL_get hi)).2
theorem grid_atP {base r m : Nat} {W : World} {v : Value} {nb cp : Nat → Nat} {F : Nat → Int → Int} (G : GridAt base W v m r nb cp F) {i k : Nat} (hi : i < m) (hk : k < r) : W.cell? ⟨nb i, k, none⟩ = some (.int .i64 (F i (k : Int))) := by
  obtain ⟨_, _, _, cu, hB, _, hc⟩ := G.cl i hi
  exact (hB.cell k).trans (hc.2 k hk)
end
end Go.Proofs.Ytakmcpadkanggaa
namespace Go.Proofs.Ytakmcpadkanggaa
open Go.RowKit Go.Maps Go.Deep
section
variable {w : World} {S : Sys} {A : Option Addr} {c : Nat} {R : Option Addr} {d n : Nat} {E : Nat → Ev} {B : Option Addr} {cb : Nat}
def FlatPost (S : Sys) (E : Nat → Ev) (n : Nat) (w : World) (e : Ending) (u : World) : Prop :=
  (∃ v nb, e = .returned v ∧ GridAt w.heap.size u v n (stN E n).r.toNat nb (fun _ => (stN E n).r.toNat) (fun i => clk E (rmS S) (i : Int))) ∧ Keeps w u []
set_option maxRecDepth 100000 in
set_option maxHeartbeats 4000000 in
theorem flat_any (hS : SysIn w S A c R d) (hE : EvsAt w B n E) (h : (thr S E n).2.2 = 0) : Calls Try.prog 76 #[.agg (sysV S A c R d), .slice B n cb] w (FlatPost S E n w) := by
  have O := Own.start w []
  obtain ⟨hv, hn, hok⟩ := thr_zero h
  have hl0 := stN_le E n
  obtain ⟨r, hr⟩ : ∃ r : Nat, (stN E n).r = (r : Int) := ⟨(stN E n).r.toNat, by omega⟩
  have hr6 : r ≤ 1000000 := by omega
  have HE := Lib.hid hE
  have HI := Lib.hid (fun u (k : Keeps w u []) (j : Nat) (hj : j < n) => into_any (cb := cb) (hS.kept k) (hE.kept k) hn (val_rooms hv) j hj (hok j hj))
  have HLEN := Lib.hid (fun j (hj : j < n) => intoL_length (rm := rmS S) (hok j hj))
  have HLT := Lib.hid (fun j (hj : j < n) x (hx : x ∈ intoL E (rmS S) j) => intoL_lt (rm := rmS S) (hok j hj) hx)
  have HWI := Lib.hid (fun j (hj : j < n) => (show ∃ wi : Nat, (E j).who = (wi : Int) ∧ wi < r from ⟨(E j).who.toNat, by have := (ok_head (hok j hj)).1; omega, by
    have h1 := ok_head (hok j hj)
    have h2 := stN_r_mono E (show j ≤ n by omega)
    omega⟩))
  have HUPS := Lib.hid (fun j (hj : j < n) => (show arrI r (updI (mxC E (rmS S) (intoL E (rmS S) j)) (E j).who (mxC E (rmS S) (intoL E (rmS S) j) (E j).who + 1)) = arrI r (clk E (rmS S) (j : Int)) by rw [clk_up (hok j hj)]))
  have HBND := Lib.hid (fun j (hj : j < n) => (show 0 ≤ mxC E (rmS S) (intoL E (rmS S) j) (E j).who ∧ mxC E (rmS S) (intoL E (rmS S) j) (E j).who ≤ 50000 from ⟨maxL_nonneg _, by
    have h1 := congrFun (clk_up (rm := rmS S) (hok j hj)) (E j).who
    rw [updI_same] at h1
    have h2 := clk_le (E := E) (rm := rmS S) (E j).who j
    omega⟩))
  have HT := Lib.hid (fun u (k : Keeps w u []) => (by have := fault_any ((validB_iff S).1 hv).1 (hS.kept k) (hE.kept k) (cb := cb) (by omega); rw [show flt S E n = ((-1), (stN E n).r) by simp [flt, firstBad_none hok], hr] at this; exact this : Calls Try.prog 61 #[.agg (sysV S A c R d), .slice B n cb] u fun e w' => e = .returned (.tuple #[.int .i64 (-1), .int .i64 (r : Int)]) ∧ Keeps u w' []))
  have HR := Lib.hid (show (stN E n).r.toNat = r by omega)
  unfold FlatPost
  rw [HR.out]
  clear hS hE h hok hv HR hr
  go_enter Try.func76, Try.ntmps76
  go_wp2_with (first
    | go_big_skip
    | (refine own_box 2 (sysV S A c R d) O rfl rfl rfl rfl ?_; clear O; intro W a2 O; simp only [Act.put, List.setIfInBounds_toArray, List.set_cons_zero, List.set_cons_succ])
    | (refine own_load 14 0 O rfl rfl rfl rfl rfl Try.underlying27 rfl (by kernel_rfl) ?_; simp only [Act.put, List.setIfInBounds_toArray, List.set_cons_zero, List.set_cons_succ])
    | (go_at_call 61; refine (HT.out _ O.keep).mono ?_; rintro e W ⟨rfl, K⟩; replace O := O.keeps K; clear K))
  clear HT
  go_loopg [7, 8] n (fun g sout sj wr => ∃ (k : Nat) (nb : Nat → Nat), k ≤ n ∧ g = n - k ∧ sj = .int .i64 (k : Int) ∧ Own w wr [] [(a2, 27, sysV S A c R d)] ∧ GridAt w.heap.size wr sout k r nb (fun _ => r) (fun i => clk E (rmS S) (i : Int)))
  case atStart => exact ⟨0, fun _ => 0, by omega, by omega, rfl, O, GridAt.nil _ _ _ _ _ _⟩
  case round =>
    obtain ⟨k, nb, hk, hgk, rfl, O, G⟩ := hrel
    have HG := Lib.hid hgk
    clear hgk
    obtain ⟨Ao, co, rfl, hnz, _⟩ := gr_shape G.row
    by_cases hlt : k < n
    · have g1 : ((k : Int)) < n := by omega
      have gk0 : (0 : Int) ≤ k := by omega
      have hws := O.keep.size
      have HXL := Lib.hid (HLEN.out k hlt)
      have HXT := Lib.hid (HLT.out k hlt)
      have HLTN := Lib.hid hlt
      go_wp2_with (first
        | (refine own_makeIK 26 r O rfl rfl rfl rfl hr6 ?_; clear O; intro W gc O K hb; have HGC := Lib.hid (fun i (hi : i < k) => (show nb i ≠ gc from fun e => by have := G.lt hi; omega)); replace G := G.new K; clear K hb; simp only [Act.put, List.setIfInBounds_toArray, List.set_cons_zero, List.set_cons_succ])
        | (refine own_load 27 1 O rfl rfl rfl rfl rfl Try.underlying27 rfl (by kernel_rfl) ?_; simp only [Act.put, List.setIfInBounds_toArray, List.set_cons_zero, List.set_cons_succ])
        | (go_at_call 71; refine (HI.out _ O.keep k hlt).mono ?_; rintro e W ⟨⟨v, rfl, MI⟩, K⟩; have HGM := Lib.hid (fun g (hg : v.ownBlock = some g) (e : g = gc) => (by have h1 := (MI.own hg).1; have h2 := (O.get 0 rfl).lt; omega : False)); replace MI := mint_low (b := w.heap.size) MI O.keep.size; replace O := O.keeps K; replace G := G.new K; clear K))
      obtain ⟨xs, hxs⟩ : ∃ xs, xs = intoL E (rmS S) k := ⟨_, rfl⟩
      rw [← hxs] at MI HXL HXT
      obtain ⟨Av, cv, hvv, hx⟩ := MI.list
      subst hvv
      obtain ⟨m, hm⟩ : ∃ m, m = xs.length := ⟨_, rfl⟩
      rw [← hm] at MI HGM
      rw [← hm]
      have HM := Lib.hid hm
      have HXS := Lib.hid hxs
      have hm6 : m ≤ 1000000 := by have := HXL.out; omega
      clear hm hxs hx
      rw [show arrI r (fun _ => 0) = arrI r (mxC E (rmS S) (xs.take 0)) from arrI_congr fun i hi => rfl] at O
      go_loopg [11] m (fun g sk wr => ∃ q, q ≤ m ∧ g = m - q ∧ sk = .int .i64 (q : Int) ∧ Own w wr [] [(gc, 3, arrI r (mxC E (rmS S) (xs.take q))), (a2, 27, sysV S A c R d)] ∧ Mint w.heap.size wr (.slice Av m cv) xs ∧ GridAt w.heap.size wr (.slice Ao k co) k r nb (fun _ => r) (fun i => clk E (rmS S) (i : Int)) ∧ ∀ g, (Value.slice Av m cv).ownBlock = some g → g ≠ gc)
      case atStart => exact ⟨0, by omega, by omega, rfl, O, MI, G, fun g hg e => HGM.out g hg e⟩
      case round =>
        clear O MI G
        obtain ⟨q, hq, hgq, rfl, O, MI, G, hne⟩ := hrel
        have HG2 := Lib.hid hgq
        have HNE := Lib.hid hne
        clear hgq hne
        by_cases hqt : q < m
        · have g2 : ((q : Int)) < m := by omega
          have g3 : (0 : Int) ≤ q := by omega
          have HQ := Lib.hid (show q < xs.length by rw [← HM.out]; exact hqt)
          obtain ⟨A', c', e', hx⟩ := MI.list
          obtain ⟨ad, e1, _, hc⟩ := hx (by have := HQ.out; omega)
          have e2 : Av = some ad := by rw [← e1]; injection e'
          subst e2
          clear e1 e' hx hc
          have hy := HXT.out (xs.getD q 0) (by rw [List.getD_eq_getElem?_getD, List.getElem?_eq_getElem HQ.out]; exact List.getElem_mem _)
          obtain ⟨x, hx⟩ : ∃ x : Nat, xs.getD q 0 = (x : Int) := ⟨(xs.getD q 0).toNat, by omega⟩
          have hxk : x < k := by omega
          have HX := Lib.hid hx
          have HACC := Lib.hid (acc_succ (E := E) (rm := rmS S) (r := r) HQ.out)
          obtain ⟨ao, rfl⟩ : ∃ ao, Ao = some ao := Option.ne_none_iff_exists'.1 (fun e => by have := (hnz e).1; omega)
          have gx1 : ((x : Int)) < k := by omega
          have gx0 : (0 : Int) ≤ x := by omega
          clear hy hx
          obtain ⟨f, hf⟩ : ∃ f, f = mxC E (rmS S) (xs.take q) := ⟨_, rfl⟩
          rw [← hf] at O HACC
          rw [HX.out] at HACC
          clear hf
          rw [← jmax_zero f (rowOf r (clk E (rmS S) (x : Int)))] at O
          go_wp2
          go_loopg [12] r (fun g sw wr => ∃ y, y ≤ r ∧ g = r - y ∧ sw = .int .i64 (y : Int) ∧ Own w wr [] [(gc, 3, arrI r (jmax f (rowOf r (clk E (rmS S) (x : Int))) y)), (a2, 27, sysV S A c R d)] ∧ Mint w.heap.size wr (.slice (some ad) m cv) xs ∧ GridAt w.heap.size wr (.slice (some ao) k co) k r nb (fun _ => r) (fun i => clk E (rmS S) (i : Int)))
          case atStart => exact ⟨0, by omega, by omega, rfl, O, MI, G⟩
          case round =>
            clear O MI G
            obtain ⟨y, hy, hgy, rfl, O, MI, G⟩ := hrel
            have HG3 := Lib.hid hgy
            clear hgy
            by_cases hyt : y < r
            · have g4 : ((y : Int)) < r := by omega
              have g5 : (0 : Int) ≤ y := by omega
              have HOB := Lib.hid (O.get 0 rfl)
              have HMI := Lib.hid MI
              have HGR := Lib.hid G
              obtain ⟨u1, hu1⟩ : ∃ u1, u1 = jmax f (rowOf r (clk E (rmS S) (x : Int))) y (y : Int) := ⟨_, rfl⟩
              obtain ⟨u2, hu2⟩ : ∃ u2, u2 = (rowOf r (clk E (rmS S) (x : Int))).getD y 0 := ⟨_, rfl⟩
              have HJ := Lib.hid (jmax_succ f (rowOf r (clk E (rmS S) (x : Int))) y)
              rw [← hu1, ← hu2] at HJ
              have c1 : ∀ p : Later wr, p.1.cell? ⟨gc, y, none⟩ = some (.int .i64 u1) := fun p => by rw [hu1]; exact ((HOB.out.keeps p.2 (by simp)).cell y).trans (arrI_get _ _ _ hyt)
              have c2 : ∀ p : Later wr, p.1.cell? (ad.add q) = some (.int .i64 (x : Int)) := fun p => by
                obtain ⟨A', c', e', hx⟩ := (HMI.out.keeps p.2 (by simp)).list
                obtain ⟨ad', e1, _, hc⟩ := hx (by have := HQ.out; omega)
                have e2 : ad = ad' := by rw [e1] at e'; injection e' with e' _ _; injection e'
                subst e2
                have := hc q HQ.out
                rwa [HX.out] at this
              have c3 : ∀ p : Later wr, p.1.cell? (ao.add x) = some (.slice (some ⟨nb x, 0, none⟩) r r) := fun p => grid_rowP (HGR.out.new p.2) rfl hxk
              have c4 : ∀ p : Later wr, p.1.cell? ⟨nb x, y, none⟩ = some (.int .i64 u2) := fun p => by rw [hu2, rowOf_get _ _ _ hyt]; exact grid_atP (HGR.out.new p.2) hxk hyt
              clear MI G hu1 hu2
              go_wp2
              refine wp_quiet_tail_later 18 (by kernel_rfl) (by kernel_rfl) ?_
              simp only [List.take, List.drop]
              repeat (first
                | go_big_quiet_skip
                | go_big_quiet_step (fail))
              refine wpQuiet_nil ?_
              intro _ hw
              obtain ⟨p', rfl⟩ := hw
              replace O := O.keeps p'.2
              replace HMI := Lib.hid (HMI.out.keeps p'.2 (by simp))
              replace HGR := Lib.hid (HGR.out.new p'.2)
              clear c1 c2 c3 c4 HOB
              generalize p'.1 = W3 at O HMI HGR ⊢
              refine own_storeK 0 y (.int .i64 (max u1 u2)) (.tmp 59) (.tmp 58) O rfl rfl rfl rfl rfl rfl (by simp only [arrI_size]; exact hyt) rfl rfl (by kernel_rfl) (arrI_set _ _ _ _) ?_
              have hB := O.get 0 rfl
              clear O
              intro W4 O K
              have MI := HMI.out.keeps K (fun g hg hm => HNE.out g hg (by simpa using hm))
              have G := HGR.out.keeps K (fun g hg hm => gr_ne HGR.out.row hB (by decide) (by rw [hg]; congr 1; exact List.mem_singleton.1 hm)) (fun i hi hm => HGC.out i hi (List.mem_singleton.1 hm))
              clear K hB HMI HGR
              simp only [List.set_cons_zero] at O
              rw [HJ.out] at O
              go_wp2
              go_roundg (r - (y + 1))
              case measure => (have := HG3.out; omega)
              case rel => exact ⟨y + 1, by omega, rfl, by go_num, O, MI, G⟩
            · obtain rfl : r = y := by omega
              clear hyt
              rw [HACC.out] at O
              go_wp2
              go_roundg (m - (q + 1))
              case measure => (have := HG2.out; omega)
              case rel => exact ⟨q + 1, by omega, rfl, by go_num, O, MI, G, HNE.out⟩
        · obtain rfl : m = q := by omega
          clear hqt
          have hta : xs.take m = intoL E (rmS S) k := by rw [HM.out, List.take_length]; exact HXS.out
          rw [hta] at O
          clear hta MI
          obtain ⟨wi, hwi, hwr⟩ := HWI.out k hlt
          have HWE := Lib.hid hwi
          have HUP := Lib.hid (HUPS.out k hlt)
          have HBD := Lib.hid (HBND.out k hlt)
          rw [hwi] at HUP HBD
          obtain ⟨u1, hu1⟩ : ∃ u1, u1 = mxC E (rmS S) (intoL E (rmS S) k) (wi : Int) := ⟨_, rfl⟩
          rw [← hu1] at HUP HBD
          have hu0 : 0 ≤ u1 := by have := HBD.out; omega
          have hu9 : u1 ≤ 1000000 := by have := HBD.out; omega
          have HOB := Lib.hid (O.get 0 rfl)
          obtain ⟨adE, rfl, _⟩ := HE.out (by omega)
          have g6 : ((wi : Int)) < r := by omega
          have g7 : (0 : Int) ≤ wi := by omega
          have c1 : ∀ p : Later wr, p.1.cell? ⟨gc, wi, none⟩ = some (.int .i64 u1) := fun p => by rw [hu1]; exact ((HOB.out.keeps p.2 (by simp)).cell wi).trans (arrI_get _ _ _ hwr)
          have hOK := O.keep
          have HOK2 := Lib.hid hOK
          have c2 : ∀ p : Later wr, p.1.cell? (adE.add (k * 5)) = some (.int .i64 (wi : Int)) := fun p => by
            obtain ⟨ad', e, _, hc⟩ := (HE.out.kept (HOK2.out.trans p.2 (by simp))) (by omega)
            cases e
            have := hc k 0 HLTN.out (by omega)
            rw [Nat.add_zero] at this
            rw [this, ← HWE.out]; rfl
          clear hu1 hOK hwi
          have HGR := Lib.hid G
          clear G
          go_wp2
          refine wp_quiet_tail_later 16 (by kernel_rfl) (by kernel_rfl) ?_
          simp only [List.take, List.drop]
          repeat (first
            | go_big_quiet_skip
            | go_big_quiet_step (fail))
          refine wpQuiet_nil ?_
          intro _ hw
          obtain ⟨p', rfl⟩ := hw
          replace O := O.keeps p'.2
          replace HGR := Lib.hid (HGR.out.new p'.2)
          clear c1 c2 HOB HOK2
          generalize p'.1 = W3 at O HGR ⊢
          refine own_storeK 0 wi (.int .i64 (u1 + 1)) (.tmp 75) (.tmp 74) O rfl rfl rfl rfl rfl rfl (by simp only [arrI_size]; exact hwr) rfl rfl (by kernel_rfl) (arrI_set _ _ _ _) ?_
          have hB := O.get 0 rfl
          clear O
          intro W4 O K
          have G := HGR.out.keeps K (fun g hg hm => gr_ne HGR.out.row hB (by decide) (by rw [hg]; congr 1; exact List.mem_singleton.1 hm)) (fun i hi hm => HGC.out i hi (List.mem_singleton.1 hm))
          clear K hB HGR
          simp only [List.set_cons_zero] at O
          rw [HUP.out] at O
          have hbc := (own_at O 0 rfl).1
          go_wp2_with (first
            | (refine own_litS 78 (.slice (some ⟨gc, 0, none⟩) r r) O rfl rfl rfl rfl rfl ?_; clear O; intro W5 gl O K hgl; replace G := G.new K; clear K hgl; simp only [Act.put, List.setIfInBounds_toArray, List.set_cons_zero, List.set_cons_succ])
            | (at_builtin; refine gr_app (.tmp 76) (.tmp 78) rowT68 O G.row rfl (by simp [Value.oneCell']) rfl rfl rfl rfl (Nat.le_refl _) O.keep.size (fun q hq => ?_) (by omega) (by decide) ?_; (· (rcases List.mem_cons.1 hq with hq | hq; (· (subst hq; exact gr_ne G.row (O.get 1 rfl) (by decide))); (· (have hq2 := List.mem_singleton.1 hq; subst hq2; exact gr_ne G.row (O.get 2 rfl) (by decide))))); have hB := O.get 1 rfl; clear O; intro v1 W6 O M K hf; have G2 := G.add hB hbc (Nat.le_refl r) (show r ≤ maxLen by simp only [maxLen]; omega) (by simp only [arrI_size]) (CurI.arr r _) HGC.out K M; clear hf K M G hB; obtain ⟨A6, c6, rfl, _⟩ := gr_shape G2.row; simp only [Act.put, List.setIfInBounds_toArray, List.set_cons_zero, List.set_cons_succ]))
          go_roundg (n - (k + 1))
          case measure => (have := HG.out; omega)
          case rel => exact ⟨k + 1, _, by omega, rfl, by go_num, O.drop_ 1, by have e : updN (fun _ => r) k r = fun _ => r := by { funext i; unfold updN; split <;> rfl }; rw [e] at G2; exact G2⟩
    · obtain rfl : n = k := by omega
      clear hlt
      go_wp2
      go_ret
      exact ⟨⟨_, _, rfl, G⟩, O.keep⟩
end
end Go.Proofs.Ytakmcpadkanggaa
namespace Go.Proofs.Ytakmcpadkanggaa
open Go.RowKit
def acB (E : Nat → Ev) (i : Nat) : Bool := decide ((E i).op = 12) || decide ((E i).op = 13)
def isAcc (E : Nat → Ev) (a : Int) (i : Nat) : Bool := acB E i && decide ((E i).a = a)
/-- Does access i race with access j? -/
def rcB (E : Nat → Ev) (rm : Int → Int) (i j : Nat) : Bool := (acB E i && acB E j) && ((decide ((E i).op = 13) || decide ((E j).op = 13)) && (decide ((E i).a = (E j).a) && (!decide ((E i).who = (E j).who) && !decide (clk E rm i (E i).who ≤ clk E rm j (E i).who))))
def prR (i j : Nat) : Int × Int := ((i : Int), (j : Int))
def raceJ (E : Nat → Ev) (rm : Int → Int) (j q : Nat) : List (Int × Int) := ((List.range q).filter fun i => rcB E rm i j).map fun i => prR i j
def raceA (E : Nat → Ev) (rm : Int → Int) : Nat → List (Int × Int)
  | 0 => []
  | j + 1 => raceA E rm j ++ raceJ E rm j j
section
variable {E : Nat → Ev} {rm : Int → Int} {i j n m : Nat}
theorem take_snoc {α : Type} (X : List α) (x : α) (m : Nat) : (X ++ [x]).take m = if X.length < m then X.take m ++ [x] else X.take m := by
  by_cases h : X.length < m
  · rw [if_pos h, List.take_of_length_le (by simp; omega), List.take_of_length_le (by omega)]
  · rw [if_neg h, List.take_append_of_le_length (by omega)]
theorem take_len_lt {α : Type} (X : List α) (m : Nat) : (X.take m).length < m ↔ X.length < m := by
  rw [List.length_take]
  omega
theorem take_pre {α : Type} {X Y : List α} (h : X <+: Y) {m : Nat} (hm : m ≤ X.length) : Y.take m = X.take m := by
  obtain ⟨t, rfl⟩ := h
  exact List.take_append_of_le_length hm
theorem raceJ_succ (j q : Nat) : raceJ E rm j (q + 1) = raceJ E rm j q ++ if rcB E rm q j = true then [prR q j] else [] := by
  unfold raceJ
  rw [List.range_succ, List.filter_append, List.map_append]
  congr 1
  cases h : rcB E rm q j <;> simp [h]
theorem raceJ_pre (j : Nat) : ∀ q k, q ≤ k → raceJ E rm j q <+: raceJ E rm j k
  | q, 0, h => by obtain rfl : q = 0 := by omega
                  exact List.prefix_rfl
  | q, k + 1, h => by
    by_cases e : q = k + 1
    · subst e; exact List.prefix_rfl
    · exact (raceJ_pre j q k (by omega)).trans (by rw [raceJ_succ]; exact List.prefix_append _ _)
theorem raceA_pre : ∀ j n, j ≤ n → raceA E rm j <+: raceA E rm n
  | j, 0, h => by obtain rfl : j = 0 := by omega
                  exact List.prefix_rfl
  | j, n + 1, h => by
    by_cases e : j = n + 1
    · subst e; exact List.prefix_rfl
    · exact (raceA_pre j n (by omega)).trans (List.prefix_append _ _)
theorem race_pre {q : Nat} (hq : q ≤ j) (hj : j < n) : raceA E rm j ++ raceJ E rm j q <+: raceA E rm n := by
  refine List.IsPrefix.trans ?_ (raceA_pre (j + 1) n (by omega))
  obtain ⟨t, ht⟩ := raceJ_pre (E := E) (rm := rm) j q j hq
  exact ⟨t, by rw [List.append_assoc, ht]; rfl⟩
theorem rc_iff : rcB E rm i j = true ↔ (acB E i = true ∧ acB E j = true) ∧ ((E i).op = 13 ∨ (E j).op = 13) ∧ (E i).a = (E j).a ∧ (E i).who ≠ (E j).who ∧ ¬ clk E rm i (E i).who ≤ clk E rm j (E i).who := by
  unfold rcB
  simp
/-- What the closure goes through: the accesses of that cell. -/
theorem raceJ_acc (hj : acB E j = true) : raceJ E rm j j = ((pickL (isAcc E (E j).a) j).filter fun i => rcB E rm i j).map fun i => prR i j := by
  unfold raceJ pickL
  rw [List.filter_filter]
  congr 1
  refine List.filter_congr fun i _ => ?_
  cases h : rcB E rm i j with
  | false => simp
  | true =>
    obtain ⟨⟨a1, _⟩, _, a3, _⟩ := rc_iff.1 h
    simp [isAcc, a1, a3]
theorem raceJ_not (hj : acB E j = false) : raceJ E rm j j = [] := by
  unfold raceJ
  rw [List.map_eq_nil_iff, List.filter_eq_nil_iff]
  intro i _ h
  obtain ⟨⟨_, a2⟩, _⟩ := rc_iff.1 h
  rw [hj] at a2; cases a2
/-- Behind q accesses of the cell. -/
def rcQ (E : Nat → Ev) (rm : Int → Int) (j q : Nat) : List (Int × Int) := (((pickL (isAcc E (E j).a) j).take q).filter fun i => rcB E rm i j).map fun i => prR i j
theorem rcQ_zero (j : Nat) : rcQ E rm j 0 = [] := rfl
theorem rcQ_succ {q : Nat} (hq : q < (pickL (isAcc E (E j).a) j).length) : rcQ E rm j (q + 1) = rcQ E rm j q ++ if rcB E rm ((pickL (isAcc E (E j).a) j).getD q 0) j = true then [prR ((pickL (isAcc E (E j).a) j).getD q 0) j] else [] := by
  unfold rcQ
  rw [List.take_succ_eq_append_getElem hq, List.filter_append, List.map_append, List.getD_eq_getElem?_getD, List.getElem?_eq_getElem hq]
  congr 1
  simp only [Option.getD_some]
  cases h : rcB E rm (pickL (isAcc E (E j).a) j)[q] j <;> simp [h]
theorem rcQ_all (hj : acB E j = true) : rcQ E rm j (pickL (isAcc E (E j).a) j).length = raceJ E rm j j := by
  unfold rcQ
  rw [List.take_length, raceJ_acc hj]
end
/-- What both Races answer. -/
def racesR (S : Sys) (E : Nat → Ev) (rm : Int → Int) (n : Nat) (most : Int) : List (Int × Int) × Int :=
  if (thr S E n).2.2 = 0 then (if most < 0 ∨ 4096 < most then ([], 1) else ((raceA E rm n).take most.toNat, 0)) else ([], (thr S E n).2.2)
end Go.Proofs.Ytakmcpadkanggaa
namespace Go.Proofs.Ytakmcpadkanggaa
open Go.ChangeShapes Go.WideShapes Go.RowKit Go.Maps Go.Deep
theorem evs_of_row3 {w w0 : World} {v : Value} {n : Nat} {E : Nat → Ev} (h : w.ownsRow w0.heap.size 37 5 v n (evL E n)) : ∃ B c, v = .slice B n c ∧ EvsAt w B n E ∧ n ≤ c ∧ c ≤ maxLen := by
  obtain ⟨B, c, rfl, hE⟩ := evs_of_row h
  refine ⟨B, c, rfl, hE, ?_⟩
  obtain ⟨_, ⟨e, hn⟩ | ⟨g, cap, cur, e, _, hb, hle, hm, hs, ht⟩⟩ := h
  · injection e with _ _ e; subst hn; subst e; exact ⟨Nat.le_refl _, by simp [maxLen]⟩
  · injection e with _ _ e; subst e; exact ⟨hle, hm⟩
section
variable {w : World} {S : Sys} {A : Option Addr} {c : Nat} {R : Option Addr} {d n : Nat} {E : Nat → Ev} {B : Option Addr} {cb : Nat}
set_option maxRecDepth 100000 in
theorem copied_rm (hE : EvsAt w B n E) (hB : B = none → n = 0 ∧ cb = 0) (hn : n * 40 ≤ 140737488351232) : Calls Try.prog 27 #[.slice B n cb] w fun e w' => (∃ B' c', e = .returned (.slice B' n c') ∧ EvsAt w' B' n E ∧ n ≤ c' ∧ c' ≤ maxLen) ∧ Keeps w w' [] := by
  obtain ⟨i, hi, hz, hsz, hby⟩ := info37
  rcases B with _ | ad
  · obtain ⟨rfl, rfl⟩ := hB rfl
    go_enter Try.func27, Try.ntmps27
    go_wp2_with (at_builtin; refine wpList_append_own_none rfl (.tmp 4) (.tmp 5) 31 rfl w.heap.size 37 i 5 Try.underlying31 hi (.slice none 0 0) 0 [] rfl (World.ownsRow_nil _ _ _ _) rfl ?_; simp only [Act.put, List.setIfInBounds_toArray, List.set_cons_zero, List.set_cons_succ])
    go_ret
    exact ⟨⟨none, 0, rfl, fun h => by omega, by simp [maxLen]⟩, Keeps.refl _ _⟩
  · have HC := Lib.hid (show ∀ j u, (evL E n)[j]? = some u → w.cell? (ad.add j) = some u from fun j u hu => by
      have hj : j < n * 5 := by
        rcases Nat.lt_or_ge j (n * 5) with h | h
        · exact h
        · rw [List.getElem?_eq_none (by rw [evL_length]; exact h)] at hu; cases hu
      obtain ⟨ad', e, _, hc⟩ := hE (by omega)
      cases e
      have h1 := hc (j / 5) (j % 5) (by omega) (by omega)
      rw [show j / 5 * 5 + j % 5 = j by omega] at h1
      have h2 := evL_get E n (j / 5) (j % 5) (by omega) (by omega)
      rw [show j / 5 * 5 + j % 5 = j by omega] at h2
      rw [h1, ← h2, hu])
    clear hE hB
    go_enter Try.func27, Try.ntmps27
    go_wp2_with (at_builtin; refine wpList_append_own _ rfl (.tmp 4) (.tmp 5) 31 rfl w.heap.size 37 i (.agg (evC ⟨0, 0, 0, 0, false⟩)) 5 40 Try.underlying31 hi hz hsz hby rfl (by decide) (.slice none 0 0) 0 [] rfl (World.ownsRow_nil _ _ _ _) ad n cb (evL E n) rfl (evL_length E n) HC.out (evL_cell E n) (by simp only [maxLen]; omega) (by omega) (Nat.le_refl _) ?_; intro v' u h1 h2 _; simp only [Act.put, List.setIfInBounds_toArray, List.set_cons_zero, List.set_cons_succ])
    simp only [Nat.zero_add, List.nil_append] at h1
    obtain ⟨B', c', rfl, hE', hr, hr'⟩ := evs_of_row3 h1
    go_ret
    exact ⟨⟨B', c', rfl, hE', hr, hr'⟩, ⟨h2.os, h2.tape, h2.output, h2.size, fun b hb _ => h2.block b hb (by simp [Value.ownBlock])⟩⟩
end
end Go.Proofs.Ytakmcpadkanggaa
namespace Go.Proofs.Ytakmcpadkanggaa
open Go.RowKit Go.Maps Go.Deep
theorem EvsAt.keptS {w u : World} {A : Option Addr} {n : Nat} {E : Nat → Ev} (h : EvsAt w A n E) (k : Keeps w u []) : EvsAt u A n E := h.kept k
end Go.Proofs.Ytakmcpadkanggaa
namespace Go.Proofs.Ytakmcpadkanggaa
open Go.RowKit Go.Maps Go.Deep
def accC (E : Nat → Ev) (rm : Int → Int) (i : Nat) : Array Value := #[.int .i64 (i : Int), .int .i64 (E i).who, .int .i64 (clk E rm i (E i).who), .bool (decide ((E i).op = 13))]
def accL (E : Nat → Ev) (rm : Int → Int) (l : List Nat) : List Value := l.flatMap fun i => (accC E rm i).toList
theorem accL_snoc (E : Nat → Ev) (rm : Int → Int) (l : List Nat) (i : Nat) : accL E rm (l ++ [i]) = accL E rm l ++ (accC E rm i).toList := by simp [accL]
theorem accL_length (E : Nat → Ev) (rm : Int → Int) (l : List Nat) : (accL E rm l).length = l.length * 4 := by
  induction l with
  | nil => rfl
  | cons x l ih => simp only [accL, List.flatMap_cons, List.length_append, List.length_cons] at *; simp only [accC, List.length_cons, List.length_nil] at *; omega
theorem accL_get (E : Nat → Ev) (rm : Int → Int) : ∀ (l : List Nat) (i f : Nat), i < l.length → f < 4 → (accL E rm l)[i * 4 + f]? = (accC E rm (l.getD i 0))[f]?
  | x :: l, 0, f, _, hf => by
    have e : accL E rm (x :: l) = (accC E rm x).toList ++ accL E rm l := rfl
    rw [e, List.getElem?_append_left (by simp only [accC, List.length_cons, List.length_nil]; omega)]
    simp
  | x :: l, i + 1, f, h, hf => by
    have ih := accL_get E rm l i f (by simpa using h) hf
    have e : accL E rm (x :: l) = (accC E rm x).toList ++ accL E rm l := rfl
    have hl : (accC E rm x).toList.length = 4 := rfl
    rw [e, List.getElem?_append_right (by omega), hl, show (i + 1) * 4 + f - 4 = i * 4 + f by omega, ih]
    rfl
theorem arow {E : Nat → Ev} {rm : Int → Int} {W : World} {base n q m c : Nat} {v : Value} {ps : List Nat} {ad : Addr} (M : W.ownsRow base 130 4 v n (accL E rm ps)) (hv : v = .slice (some ad) m c) (hq : q < ps.length) : ∀ j, j < (accC E rm (ps.getD q 0)).size → W.cell? ((ad.add (q * 4)).add j) = (accC E rm (ps.getD q 0))[j]? := fun j hj => by
  have hj' : j < 4 := hj
  have h1 := accL_get E rm ps q j hq hj'
  rw [Addr.add_add, ← h1]
  obtain ⟨x, hx⟩ : ∃ x, (accL E rm ps)[q * 4 + j]? = some x := ⟨_, List.getElem?_eq_getElem (by rw [accL_length]; omega)⟩
  rw [hx]
  exact (gr_cell M hv hx).2
theorem rowT131 : RowT 131 130 4 32 (.agg #[.int .i64 0, .int .i64 0, .int .i64 0, .bool false]) := by
  have h : (Try.prog.info? 130).map (fun i => (i.zero, i.size, i.bytes)) = some (some (.agg #[.int .i64 0, .int .i64 0, .int .i64 0, .bool false]), 4, 32) := by kernel_rfl
  obtain ⟨i, hi, he⟩ := Option.map_eq_some_iff.1 h
  simp only [Prod.mk.injEq] at he
  exact ⟨Try.underlying131, ⟨i, hi, he.1, he.2.1, he.2.2⟩, rfl, by decide⟩
theorem rowT73 : RowT 73 79 2 16 (.agg #[.int .i64 0, .int .i64 0]) := by
  have h : (Try.prog.info? 79).map (fun i => (i.zero, i.size, i.bytes)) = some (some (.agg #[.int .i64 0, .int .i64 0]), 2, 16) := by kernel_rfl
  obtain ⟨i, hi, he⟩ := Option.map_eq_some_iff.1 h
  simp only [Prod.mk.injEq] at he
  exact ⟨Try.underlying73, ⟨i, hi, he.1, he.2.1, he.2.2⟩, rfl, by decide⟩
section
variable {ops : Array Oper} {rest : List Oper} {o : Oper} {a : Act} {w W : World} {Q : Exit → Act → World → Prop} {Sx : List Nat} {L : List Ent}
theorem own_litK (d T e len : Nat) (size : Nat) (z : Value) (parts : Array (Nat × Operand)) (cells : Array Value) (O : Own w W Sx L) (_hd : o.dst = some d) (hgd : o.guard = none) (ho : o.op = .buildSlice T len parts) (ht : Try.prog.underlying T = some (.slice e))
    (hi : (Try.prog.info? e).map (fun i => (i.zero, i.size)) = some (some z, size)) (h1 : ¬ len * size > 2 ^ 24) (h2 : ¬ len * size = 0)
    (hf : Instr.fill (fun i => some (i * size, size)) ((Array.range (len * size)).map (z.cells[· % z.cells.size]!)) (parts.map fun (i, x) => (i, a.eval x)).toList = some cells)
    (h : ∀ u g, Own w u Sx ((g, e, cells) :: L) → Keeps W u [] → W.heap.size ≤ g → wpList Try.prog ops Q rest (a.put o.dst (.slice (some ⟨g, 0, none⟩) len len)) u) : wpList Try.prog ops Q (o :: rest) a W := by
  obtain ⟨i, hi2, he⟩ := Option.map_eq_some_iff.1 hi
  simp only [Prod.mk.injEq] at he
  obtain ⟨hz, hs⟩ := he
  have k := (Keeps.refl W []).alloc (.cells cells e)
  refine wpList_buildSlice hgd T e len parts ho cells i z ht hi2 hz (by rw [hs]; exact h1) (by rw [hs]; exact h2) ?_ (h _ _ (O.add k (Blk.new _ _ _)) k (Nat.le_refl _))
  rw [hs]
  exact hf
end
def celV (f : Int → Option Value) (a : Int) : Value := (f a).getD (.slice none 0 0)
/-- The accesses of each cell. -/
structure CelAt (base : Nat) (W : World) (mt mc : Nat) (f : Int → Option Value) (E : Nat → Ev) (rm : Int → Int) (k : Nat) : Prop where
  map : MapV W mt mc f
  row : ∀ a, W.ownsRow base 130 4 (celV f a) (pickL (isAcc E a) k).length (accL E rm (pickL (isAcc E a) k))
  ne : ∀ a a' g, (celV f a).ownBlock = some g → (celV f a').ownBlock = some g → a = a'
section
variable {base mt mc k : Nat} {W u : World} {f : Int → Option Value} {E : Nat → Ev} {rm : Int → Int} {S : List Nat} {v' : Value}
theorem CelAt.keeps (h : CelAt base W mt mc f E rm k) (K : Keeps W u S) (h1 : mt ∉ S) (h2 : ∀ a g, (celV f a).ownBlock = some g → g ∉ S) : CelAt base u mt mc f E rm k :=
  ⟨h.map.keeps K h1, fun a => gr_keeps (h.row a) K (h2 a), h.ne⟩
theorem CelAt.new (h : CelAt base W mt mc f E rm k) (K : Keeps W u []) : CelAt base u mt mc f E rm k := h.keeps K (by simp) (by simp)
theorem CelAt.same (h : CelAt base W mt mc f E rm k) (hk : acB E k = false) : CelAt base W mt mc f E rm (k + 1) := by
  have e : ∀ a, pickL (isAcc E a) (k + 1) = pickL (isAcc E a) k := fun a => by rw [pickL_succ, if_neg (by simp [isAcc, hk]), List.append_nil]
  exact ⟨h.map, fun a => by rw [e]; exact h.row a, h.ne⟩
/-- One access more. -/
theorem CelAt.add (h : CelAt base W mt mc f E rm k) (hk : acB E k = true) {U : World} (K : Keeps W U (celV f (E k).a).ownBlock.toList) (M : U.ownsRow base 130 4 v' ((pickL (isAcc E (E k).a) k).length + 1) (accL E rm (pickL (isAcc E (E k).a) k) ++ (accC E rm k).toList)) (hb : v'.ownBlock = (celV f (E k).a).ownBlock ∨ ∃ g, v'.ownBlock = some g ∧ W.heap.size ≤ g)
    (Ku : Keeps U u [mt]) (hm : MapV u mt (mc + 1) (updI f (E k).a (some v'))) : CelAt base u mt (mc + 1) (updI f (E k).a (some v')) E rm (k + 1) := by
  have at_ : celV (updI f (E k).a (some v')) (E k).a = v' := by simp [celV]
  have oth : ∀ a, a ≠ (E k).a → celV (updI f (E k).a (some v')) a = celV f a := fun a ha => by unfold celV; rw [updI_other _ _ _ _ ha]
  have nb : ∀ {v : Value} {e n : Nat} {xs : List Value}, U.ownsRow base e 4 v n xs → ∀ g, v.ownBlock = some g → g ∉ [mt] := fun {v e n xs} M g hg hm' => by
    obtain ⟨_, _, cur, hB⟩ := gr_own M hg
    have e1 := List.mem_singleton.1 hm'
    subst e1
    exact (MapV.not_blk (h.map.keeps K (fun hq => by
      obtain ⟨_, _, cur', hB'⟩ := gr_own (h.row (E k).a) (g := g) (by simpa using hq)
      exact h.map.not_blk hB' rfl)) hB) rfl
  have own_lt : ∀ a g, (celV f a).ownBlock = some g → g < W.heap.size := fun a g hg => (gr_own (h.row a) hg).2.1
  refine ⟨hm, fun a => ?_, fun a a' g h1 h2 => ?_⟩
  · by_cases e : a = (E k).a
    · subst e
      rw [at_, pickL_succ, if_pos (by simp [isAcc, hk]), accL_snoc, List.length_append]
      exact gr_keeps M Ku (nb M)
    · rw [oth a e, pickL_succ, if_neg (by simp only [isAcc, Bool.and_eq_true, decide_eq_true_eq]; exact fun q => e q.2.symm), List.append_nil]
      have h1 : U.ownsRow base 130 4 (celV f a) _ _ := gr_keeps (h.row a) K fun g hg hm' => e (h.ne a _ g hg (by simpa using hm'))
      exact gr_keeps h1 Ku (nb h1)
  · by_cases e : a = (E k).a
    · by_cases e' : a' = (E k).a
      · rw [e, e']
      · subst e
        rw [at_] at h1
        rw [oth a' e'] at h2
        rcases hb with hb | ⟨g', hb, hl⟩
        · rw [hb] at h1; exact h.ne _ _ g h1 h2
        · rw [hb] at h1
          injection h1 with h1
          have := own_lt a' g h2
          omega
    · rw [oth a e] at h1
      by_cases e' : a' = (E k).a
      · subst e'
        rw [at_] at h2
        rcases hb with hb | ⟨g', hb, hl⟩
        · rw [hb] at h2; exact h.ne _ _ g h1 h2
        · rw [hb] at h2
          injection h2 with h2
          have := own_lt a g h1
          omega
      · rw [oth a' e'] at h2
        exact h.ne _ _ g h1 h2
end
/-- What the closure of Races has behind k events. -/
def RcInv (w0 : World) (E : Nat → Ev) (rm : Int → Int) (B : Option Addr) (n cb most b4 b10 b5 b11 mt : Nat) (k : Nat) (u : World) (D : List Nat) : Prop :=
  ∃ v f Dc mc, D = b4 :: b10 :: b5 :: b11 :: mt :: (v.ownBlock.toList ++ Dc) ∧ mc ≤ k ∧ Keeps w0 u [] ∧ Blk u b4 31 #[.slice B n cb] ∧ Blk u b10 73 #[v] ∧ Blk u b5 3 #[.int .i64 (most : Int)] ∧ Blk u b11 128 #[.map (some mt)] ∧
    MintP 79 w0.heap.size u v ((raceA E rm k).take most) ∧ CelAt w0.heap.size u mt mc f E rm k ∧ (∀ a g, (celV f a).ownBlock = some g → g ∈ Dc) ∧ (∀ b ∈ Dc, b < u.heap.size) ∧ (w0.heap.size ≤ b4 ∧ w0.heap.size ≤ b10 ∧ w0.heap.size ≤ b5 ∧ w0.heap.size ≤ b11 ∧ w0.heap.size ≤ mt)
theorem rcInv_ok {w0 : World} {E : Nat → Ev} {rm : Int → Int} {B : Option Addr} {n cb most b4 b10 b5 b11 mt k : Nat} : IvOk w0 (RcInv w0 E rm B n cb most b4 b10 b5 b11 mt k) := by
  rintro W u D S ⟨v, f, Dc, mc, rfl, hm, K0, h4, h10, h5, h11, M, C, hD, hl, hb⟩ K hS
  have ns : ∀ b, b ∈ b4 :: b10 :: b5 :: b11 :: mt :: (v.ownBlock.toList ++ Dc) → b ∉ S := fun b hb hm => (hS b hm).1 hb
  refine ⟨v, f, Dc, mc, rfl, hm, K0.trans K (fun b hb hlt => by have := (hS b hb).2; omega), h4.keeps K (ns _ (by simp)), h10.keeps K (ns _ (by simp)), h5.keeps K (ns _ (by simp)), h11.keeps K (ns _ (by simp)), gr_keeps M K (fun g hg => ns _ (by simp [hg])), C.keeps K (ns _ (by simp)) (fun a g hg => ns _ ?_), hD, fun b hb => Nat.lt_of_lt_of_le (hl b hb) K.size, hb⟩
  have := hD a g hg
  simp [this]
end Go.Proofs.Ytakmcpadkanggaa

/-
  Part 8 of what this claim rests on.
-/
import Derived.Handy
import Derived.Great.BuildSlice
import Derived.WalkLawsBesides
import Derived.Recover
import Derived.Test.YtakmcpadkanggaaCl7
namespace Go.Proofs.Ytakmcpadkanggaa
open Go.RowKit Go.Maps Go.Deep
section
variable {w : World} {S : Sys} {A : Option Addr} {c : Nat} {R : Option Addr} {d n : Nat} {E : Nat → Ev} {B : Option Addr} {cb : Nat}
set_option maxRecDepth 100000 in
set_option maxHeartbeats 4000000 in
theorem into_8 (hS : SysIn w S A c R d) (hE : EvsAt w B n E) (hn : n ≤ 40000) (hrm : ∀ q, q < S.nr → 1 ≤ S.rm q ∧ S.rm q ≤ 1000000) (j : Nat) (hj : j < n) (hok : okE S (stN E j) (E j) = true) (hop : (E j).op = 8) : Calls Try.prog 71 #[.agg (sysV S A c R d), .slice B n cb, .int .i64 (j : Int)] w (IntoPost w S E j) := by
  have O := Own.start w []
  have HE := Lib.hid hE
  have g1 : ((j : Nat) : Int) < n := by omega
  have g0 : (0 : Int) ≤ j := by omega
  obtain ⟨ad, rfl, hc⟩ := EvsAt.row (u := w) HE.out hj
  have HC := Lib.hid hc
  obtain ⟨e, he⟩ : ∃ e, e = E j := ⟨_, rfl⟩
  rw [← he] at hc HC hop
  have HEJ := Lib.hid he
  have HRO := Lib.hid hS.rooms
  have HRM := Lib.hid hrm
  have HOK := Lib.hid hok
  clear hc hE he hS hrm hok
  obtain ⟨who, op, a, v, sh⟩ := e
  have HOP := Lib.hid hop
  clear hop
  go_enter Try.func71, Try.ntmps71
  go_wp2_with (first
    | go_big_skip
    | (refine own_box 3 (sysV S A c R d) O rfl rfl rfl rfl ?_; clear O; intro W a3 O; simp only [Act.put, List.setIfInBounds_toArray, List.set_cons_zero, List.set_cons_succ])
    | (refine wpList_load_at 21 rfl rfl rfl rfl (HC.out [] _ O.keep (by simp)) Try.underlying37 rfl (by kernel_rfl) ?_; simp only [Act.put, List.setIfInBounds_toArray, List.set_cons_zero, List.set_cons_succ])
    | (refine own_alloc 7 (evC ⟨0, 0, 0, 0, false⟩) O rfl rfl rfl (fun _ => by kernel_rfl) ?_; clear O; intro W g7 O; simp only [Act.put, List.setIfInBounds_toArray, List.set_cons_zero, List.set_cons_succ])
    | (refine own_store_row 0 (.tmp 7) (.tmp 21) O rfl rfl rfl rfl rfl rfl (by kernel_rfl) (by rfl) (evC_cell _) ?_; clear O; intro W O; simp only [List.set_cons_zero] at O))
  go_loopg [9, 10, 11, 12] j (fun g s9 s10 s11 s12 wr => ∃ k, k ≤ j ∧ g = j - k ∧ s12 = .int .i64 (k : Int) ∧ s9 = .int .i64 (oI (lastN E who k)) ∧ s10 = .int .i64 (oI (bornN E who k)) ∧ s11 = .int .i64 ((pickL (samE E ⟨who, op, a, v, sh⟩) k).length : Int) ∧ Own w wr [] (LI S A c R d g7 a3 ⟨who, op, a, v, sh⟩))
  case atStart => exact ⟨0, by omega, by omega, rfl, rfl, rfl, rfl, O⟩
  case round =>
    obtain ⟨k, hk, hgk, rfl, rfl, rfl, rfl, O⟩ := hrel
    have HG := Lib.hid hgk
    clear hgk
    by_cases hlt : k < j
    · have g2 : ((k : Int)) < j := by omega
      have g3 : ((k : Int)) < n := by omega
      have g4 : (0 : Int) ≤ k := by omega
      obtain ⟨ad', e', hc⟩ := EvsAt.row (u := w) HE.out (show k < n by omega)
      cases e'
      obtain ⟨f, hf⟩ : ∃ f, f = E k := ⟨_, rfl⟩
      rw [← hf] at hc
      have HCK := Lib.hid hc
      have HLN := Lib.hid (show lastN E who (k + 1) = if f.who = who then some (k : Int) else lastN E who k by rw [hf]; rfl)
      have HBN := Lib.hid (show bornN E who (k + 1) = if f.op = 14 ∧ 0 < f.v ∧ f.v = who then some (k : Int) else bornN E who k by rw [hf]; rfl)
      have HSM := Lib.hid (show samE E ⟨who, op, a, v, sh⟩ k = ((((op == 5) && (f.op == 5)) || ((op == 6) && (!sh && ((f.op == 6) && !f.sh)))) && (f.a == a)) by rw [hf]; rfl)
      have HPL := Lib.hid (show (pickL (samE E ⟨who, op, a, v, sh⟩) (k + 1)).length = (pickL (samE E ⟨who, op, a, v, sh⟩) k).length + if samE E ⟨who, op, a, v, sh⟩ k then 1 else 0 by rw [pickL_succ, List.length_append]; split <;> rfl)
      have hpl := pickL_length (samE E ⟨who, op, a, v, sh⟩) k
      generalize samE E ⟨who, op, a, v, sh⟩ k = sm at HSM HPL
      generalize hnk : (pickL (samE E ⟨who, op, a, v, sh⟩) k).length = nk at hpl HPL ⊢
      clear hf hc hnk
      obtain ⟨lw, lo, la, lv, ls⟩ := f
      have c0 : ∀ p : Later wr, p.1.cell? (ad.add (k * 5)) = some (.int .i64 lw) := fun p => HCK.out [] _ (O.keep.trans p.2 (by simp)) (by simp) 0 (by show 0 < 5; omega)
      have c1 : ∀ p : Later wr, p.1.cell? ⟨(ad.add (k * 5)).block, (ad.add (k * 5)).off + 1, none⟩ = some (.int .i64 lo) := fun p => HCK.out [] _ (O.keep.trans p.2 (by simp)) (by simp) 1 (by show 1 < 5; omega)
      have c2 : ∀ p : Later wr, p.1.cell? ⟨(ad.add (k * 5)).block, (ad.add (k * 5)).off + 2, none⟩ = some (.int .i64 la) := fun p => HCK.out [] _ (O.keep.trans p.2 (by simp)) (by simp) 2 (by show 2 < 5; omega)
      have c3 : ∀ p : Later wr, p.1.cell? ⟨(ad.add (k * 5)).block, (ad.add (k * 5)).off + 3, none⟩ = some (.int .i64 lv) := fun p => HCK.out [] _ (O.keep.trans p.2 (by simp)) (by simp) 3 (by show 3 < 5; omega)
      have c4 : ∀ p : Later wr, p.1.cell? ⟨(ad.add (k * 5)).block, (ad.add (k * 5)).off + 4, none⟩ = some (.bool ls) := fun p => HCK.out [] _ (O.keep.trans p.2 (by simp)) (by simp) 4 (by show 4 < 5; omega)
      have c7 : ∀ (p : Later wr) (i : Nat), p.1.cell? ⟨g7, i, none⟩ = #[Value.int .i64 who, .int .i64 op, .int .i64 a, .int .i64 v, .bool sh][i]? := Later.cell (O.get 0 rfl)
      go_upto_region 9 with (fail)
      refine wp_quiet_later (by kernel_rfl) (by kernel_rfl) ?_
      repeat (first
        | go_big_quiet_skip
        | go_big_quiet_step (fail))
      refine wpQuiet_nil ?_
      intro _ hw
      obtain ⟨p', rfl⟩ := hw
      replace O := O.keeps p'.2
      clear c0 c1 c2 c3 c4 c7
      generalize p'.1 = W at O ⊢
      go_upto_if 34 with (fail)
      go_cut [9] (fun s9 wx => s9 = .int .i64 (oI (lastN E who (k + 1))) ∧ Own w wx [] (LI S A c R d g7 a3 ⟨who, op, a, v, sh⟩))
      case first =>
        by_cases h : lw = who
        · have e1 : (lw == who) = true := by simpa using h
          have HN := Lib.hid (HLN.out.trans (if_pos h))
          clear h
          go_wp2
          go_meet
          exact ⟨by rw [HN.out]; rfl, O⟩
        · have e1 : (lw == who) = false := by simpa using h
          have HN := Lib.hid (HLN.out.trans (if_neg h))
          clear h
          go_wp2
          go_meet
          exact ⟨by rw [HN.out], O⟩
      case rest =>
        obtain ⟨rfl, O⟩ := hcut
        clear HLN
        have c0 : ∀ p : Later wc, p.1.cell? (ad.add (k * 5)) = some (.int .i64 lw) := fun p => HCK.out [] _ (O.keep.trans p.2 (by simp)) (by simp) 0 (by show 0 < 5; omega)
        have c1 : ∀ p : Later wc, p.1.cell? ⟨(ad.add (k * 5)).block, (ad.add (k * 5)).off + 1, none⟩ = some (.int .i64 lo) := fun p => HCK.out [] _ (O.keep.trans p.2 (by simp)) (by simp) 1 (by show 1 < 5; omega)
        have c2 : ∀ p : Later wc, p.1.cell? ⟨(ad.add (k * 5)).block, (ad.add (k * 5)).off + 2, none⟩ = some (.int .i64 la) := fun p => HCK.out [] _ (O.keep.trans p.2 (by simp)) (by simp) 2 (by show 2 < 5; omega)
        have c3 : ∀ p : Later wc, p.1.cell? ⟨(ad.add (k * 5)).block, (ad.add (k * 5)).off + 3, none⟩ = some (.int .i64 lv) := fun p => HCK.out [] _ (O.keep.trans p.2 (by simp)) (by simp) 3 (by show 3 < 5; omega)
        have c4 : ∀ p : Later wc, p.1.cell? ⟨(ad.add (k * 5)).block, (ad.add (k * 5)).off + 4, none⟩ = some (.bool ls) := fun p => HCK.out [] _ (O.keep.trans p.2 (by simp)) (by simp) 4 (by show 4 < 5; omega)
        have c7 : ∀ (p : Later wc) (i : Nat), p.1.cell? ⟨g7, i, none⟩ = #[Value.int .i64 who, .int .i64 op, .int .i64 a, .int .i64 v, .bool sh][i]? := Later.cell (O.get 0 rfl)
        obtain ⟨bB, hbB⟩ : ∃ bB, bB = decide (lo = 14 ∧ 0 < lv ∧ lv = who) := ⟨_, rfl⟩
        have HBB := Lib.hid hbB
        clear hbB
        go_upto_region 11 with (fail)
        go_cut [56] (fun s wx => s = .bool bB ∧ Own w wx [] (LI S A c R d g7 a3 ⟨who, op, a, v, sh⟩))
        case first =>
          by_cases h1 : lo = 14
          · have qh1 : (lo == 14) = true := by simpa using h1
            by_cases h2 : lv = who
            · have qh2 : (lv == who) = true := by simpa using h2
              by_cases h3 : 0 < who
              · have qh3 : decide (0 < who) = true := decide_eq_true h3
                have HV := Lib.hid (show bB = true by rw [HBB.out]; simp [qh1, h1, qh2, h2, qh3, h3])
                clear h1 h2 h3
                refine wp_quiet_later (by kernel_rfl) (by kernel_rfl) ?_
                repeat (first
                  | go_big_quiet_skip
                  | go_big_quiet_step (fail))
                refine wpQuiet_nil ?_
                intro _ hw
                obtain ⟨p', rfl⟩ := hw
                replace O := O.keeps p'.2
                clear c0 c1 c2 c3 c4 c7 qh1 qh2 qh3
                generalize p'.1 = W at O ⊢
                go_wp2
                go_meet
                exact ⟨by rw [HV.out], O⟩
              · have qh3 : decide (0 < who) = false := decide_eq_false h3
                have HV := Lib.hid (show bB = false by rw [HBB.out]; simp [qh1, h1, qh2, h2, qh3, h3])
                clear h1 h2 h3
                refine wp_quiet_later (by kernel_rfl) (by kernel_rfl) ?_
                repeat (first
                  | go_big_quiet_skip
                  | go_big_quiet_step (fail))
                refine wpQuiet_nil ?_
                intro _ hw
                obtain ⟨p', rfl⟩ := hw
                replace O := O.keeps p'.2
                clear c0 c1 c2 c3 c4 c7 qh1 qh2 qh3
                generalize p'.1 = W at O ⊢
                go_wp2
                go_meet
                exact ⟨by rw [HV.out], O⟩
            · have qh2 : (lv == who) = false := by simpa using h2
              have HV := Lib.hid (show bB = false by rw [HBB.out]; simp [qh1, h1, qh2, h2])
              clear h1 h2
              refine wp_quiet_later (by kernel_rfl) (by kernel_rfl) ?_
              repeat (first
                | go_big_quiet_skip
                | go_big_quiet_step (fail))
              refine wpQuiet_nil ?_
              intro _ hw
              obtain ⟨p', rfl⟩ := hw
              replace O := O.keeps p'.2
              clear c0 c1 c2 c3 c4 c7 qh1 qh2
              generalize p'.1 = W at O ⊢
              go_wp2
              go_meet
              exact ⟨by rw [HV.out], O⟩
          · have qh1 : (lo == 14) = false := by simpa using h1
            have HV := Lib.hid (show bB = false by rw [HBB.out]; simp [qh1, h1])
            clear h1
            refine wp_quiet_later (by kernel_rfl) (by kernel_rfl) ?_
            repeat (first
              | go_big_quiet_skip
              | go_big_quiet_step (fail))
            refine wpQuiet_nil ?_
            intro _ hw
            obtain ⟨p', rfl⟩ := hw
            replace O := O.keeps p'.2
            clear c0 c1 c2 c3 c4 c7 qh1
            generalize p'.1 = W at O ⊢
            go_wp2
            go_meet
            exact ⟨by rw [HV.out], O⟩
        case rest =>
          obtain ⟨rfl, O⟩ := hcut
          clear c0 c1 c2 c3 c4 c7
          go_upto_if 56 with (fail)
          go_cut [10] (fun s10 wx => s10 = .int .i64 (oI (bornN E who (k + 1))) ∧ Own w wx [] (LI S A c R d g7 a3 ⟨who, op, a, v, sh⟩))
          case first =>
            cases bB with
            | true =>
              have HN := Lib.hid (HBN.out.trans (if_pos (of_decide_eq_true HBB.out.symm)))
              go_wp2
              go_meet
              exact ⟨by rw [HN.out]; rfl, O⟩
            | false =>
              have HN := Lib.hid (HBN.out.trans (if_neg (of_decide_eq_false HBB.out.symm)))
              go_wp2
              go_meet
              exact ⟨by rw [HN.out], O⟩
          case rest =>
            obtain ⟨rfl, O⟩ := hcut
            clear HBN HBB
            have c0 : ∀ p : Later wc, p.1.cell? (ad.add (k * 5)) = some (.int .i64 lw) := fun p => HCK.out [] _ (O.keep.trans p.2 (by simp)) (by simp) 0 (by show 0 < 5; omega)
            have c1 : ∀ p : Later wc, p.1.cell? ⟨(ad.add (k * 5)).block, (ad.add (k * 5)).off + 1, none⟩ = some (.int .i64 lo) := fun p => HCK.out [] _ (O.keep.trans p.2 (by simp)) (by simp) 1 (by show 1 < 5; omega)
            have c2 : ∀ p : Later wc, p.1.cell? ⟨(ad.add (k * 5)).block, (ad.add (k * 5)).off + 2, none⟩ = some (.int .i64 la) := fun p => HCK.out [] _ (O.keep.trans p.2 (by simp)) (by simp) 2 (by show 2 < 5; omega)
            have c3 : ∀ p : Later wc, p.1.cell? ⟨(ad.add (k * 5)).block, (ad.add (k * 5)).off + 3, none⟩ = some (.int .i64 lv) := fun p => HCK.out [] _ (O.keep.trans p.2 (by simp)) (by simp) 3 (by show 3 < 5; omega)
            have c4 : ∀ p : Later wc, p.1.cell? ⟨(ad.add (k * 5)).block, (ad.add (k * 5)).off + 4, none⟩ = some (.bool ls) := fun p => HCK.out [] _ (O.keep.trans p.2 (by simp)) (by simp) 4 (by show 4 < 5; omega)
            have c7 : ∀ (p : Later wc) (i : Nat), p.1.cell? ⟨g7, i, none⟩ = #[Value.int .i64 who, .int .i64 op, .int .i64 a, .int .i64 v, .bool sh][i]? := Later.cell (O.get 0 rfl)
            go_upto_region 13 with (fail)
            go_cut [104] (fun s wx => s = .bool sm ∧ Own w wx [] (LI S A c R d g7 a3 ⟨who, op, a, v, sh⟩))
            case first =>
              have q1 : (op == 5) = false := by have h := HOP.out; simpa using (show ¬ op = 5 by omega)
              have q3 : (op == 6) = false := by have h := HOP.out; simpa using (show ¬ op = 6 by omega)
              have HV := Lib.hid (show sm = false by rw [HSM.out]; simp [q1, q3])
              refine wp_quiet_later (by kernel_rfl) (by kernel_rfl) ?_
              repeat (first
                | go_big_quiet_skip
                | go_big_quiet_step (fail))
              refine wpQuiet_nil ?_
              intro _ hw
              obtain ⟨p', rfl⟩ := hw
              replace O := O.keeps p'.2
              clear c0 c1 c2 c3 c4 c7 q1 q3
              generalize p'.1 = W at O ⊢
              go_wp2
              go_meet
              exact ⟨by rw [HV.out], O⟩
            case rest =>
              obtain ⟨rfl, O⟩ := hcut
              clear c0 c1 c2 c3 c4 c7 HSM
              cases sm with
              | true =>
                go_wp2
                go_roundg (j - (k + 1))
                case measure => (have := HG.out; omega)
                case rel => exact ⟨k + 1, by omega, rfl, by go_num, rfl, rfl, by rw [HPL.out]; go_num, O⟩
              | false =>
                go_wp2
                go_roundg (j - (k + 1))
                case measure => (have := HG.out; omega)
                case rel => exact ⟨k + 1, by omega, rfl, by go_num, rfl, rfl, by rw [HPL.out]; rfl, O⟩
    · obtain rfl : k = j := by omega
      clear HG g1
      obtain ⟨x9, hx9⟩ : ∃ x, x = oI (lastN E who k) := ⟨_, rfl⟩
      obtain ⟨x10, hx10⟩ : ∃ x, x = oI (bornN E who k) := ⟨_, rfl⟩
      obtain ⟨nk, hnk⟩ : ∃ x, x = (pickL (samE E ⟨who, op, a, v, sh⟩) k).length := ⟨_, rfl⟩
      rw [← hx9, ← hx10, ← hnk]
      have HNK := Lib.hid hnk
      have HX9 := Lib.hid hx9
      have HX10 := Lib.hid hx10
      have hnkk : nk ≤ k := by rw [hnk]; exact pickL_length _ _
      clear hx9 hx10 hnk
      go_upto_if 108 with (fail)
      go_cut [8] (fun s8 wx => Own w wx [] (LI S A c R d g7 a3 ⟨who, op, a, v, sh⟩) ∧ Mint w.heap.size wx s8 (ownL (lkN E k) who))
      case first =>
        have M := Mint.nil w.heap.size wr
        cases hl : lastN E who k with
        | some i =>
          have HO := Lib.hid (show ownL (lkN E k) who = [] ++ [x9] by rw [ownL_lk, hl, HX9.out, hl]; rfl)
          have q1 : (0 : Int) ≤ x9 := by rw [HX9.out, hl]; exact (lastN_lt hl).1
          clear hl
          go_wp2_with (first
            | (refine own_lit1 111 (x9) O rfl rfl rfl rfl ?_; clear O; intro W gl O K1 _; replace M := M.keeps K1 (by simp); clear K1; simp only [Act.put, List.setIfInBounds_toArray, List.set_cons_zero, List.set_cons_succ])
            | (at_builtin; refine own_app w.heap.size _ ([]) (x9) gl (.tmp 109) (.tmp 111) (O.drop_ 1) M rfl rfl rfl rfl ((O.get 0 rfl).cell 0) rfl (by simp [LI]) (by simp) ?_; clear O M; intro v1 W O M; simp only [List.drop] at O; simp only [Act.put, List.setIfInBounds_toArray, List.set_cons_zero, List.set_cons_succ]))
          go_meet
          exact ⟨O, by rw [HO.out]; exact M⟩
        | none =>
          have q1 : ¬ (0 : Int) ≤ x9 := by rw [HX9.out, hl]; decide
          cases hb : bornN E who k with
          | some i =>
            have HO := Lib.hid (show ownL (lkN E k) who = [] ++ [x10] by rw [ownL_lk, hl, hb, HX10.out, hb]; rfl)
            have q2 : (0 : Int) ≤ x10 := by rw [HX10.out, hb]; exact (bornN_lt hb).1
            clear hl hb
            go_wp2_with (first
              | (refine own_lit1 117 (x10) O rfl rfl rfl rfl ?_; clear O; intro W gl O K1 _; replace M := M.keeps K1 (by simp); clear K1; simp only [Act.put, List.setIfInBounds_toArray, List.set_cons_zero, List.set_cons_succ])
              | (at_builtin; refine own_app w.heap.size _ ([]) (x10) gl (.tmp 115) (.tmp 117) (O.drop_ 1) M rfl rfl rfl rfl ((O.get 0 rfl).cell 0) rfl (by simp [LI]) (by simp) ?_; clear O M; intro v1 W O M; simp only [List.drop] at O; simp only [Act.put, List.setIfInBounds_toArray, List.set_cons_zero, List.set_cons_succ]))
            go_meet
            exact ⟨O, by rw [HO.out]; exact M⟩
          | none =>
            have HO := Lib.hid (show ownL (lkN E k) who = [] by rw [ownL_lk, hl, hb])
            have q2 : ¬ (0 : Int) ≤ x10 := by rw [HX10.out, hb]; decide
            clear hl hb
            go_wp2
            go_meet
            exact ⟨O, by rw [HO.out]; exact M⟩
      case rest =>
        obtain ⟨O, M⟩ := hcut
        have HOL := Lib.hid (show (ownL (lkN E k) who).length ≤ 1 by rw [ownL_lk]; split <;> (try split) <;> simp)
        clear HX9 HX10
        by_cases o6 : op = 6
        · exfalso
          have := HOP.out
          omega
        · by_cases o5 : op = 5
          · exfalso
            have := HOP.out
            omega
          · by_cases o8 : op = 8
            · subst o8
              have c7 : ∀ i : Nat, (wc).cell? ⟨g7, i, none⟩ = #[Value.int .i64 who, .int .i64 8, .int .i64 a, .int .i64 v, .bool sh][i]? := (O.get 0 rfl).cell
              go_wp2
              clear c7
              go_loopg [14, 15] k (fun g s14 s15 wr => ∃ m, m ≤ k ∧ g = k - m ∧ s15 = .int .i64 (m : Int) ∧ s14 = .int .i64 (aftN E a m : Int) ∧ Own w wr [] (LI S A c R d g7 a3 ⟨who, 8, a, v, sh⟩) ∧ Mint w.heap.size wr u8 (ownL (lkN E k) who))
              case atStart => exact ⟨0, by omega, by omega, rfl, rfl, O, M⟩
              case round =>
                obtain ⟨m, hm, hgk, rfl, rfl, O, M⟩ := hrel
                have HG := Lib.hid hgk
                clear hgk
                by_cases hlt : m < k
                · have g2 : ((m : Int)) < k := by omega
                  have g3 : ((m : Int)) < n := by omega
                  have g4 : (0 : Int) ≤ m := by omega
                  obtain ⟨ad', e', hc⟩ := EvsAt.row (u := w) HE.out (show m < n by omega)
                  cases e'
                  obtain ⟨f, hf⟩ : ∃ f, f = E m := ⟨_, rfl⟩
                  rw [← hf] at hc
                  have HCK := Lib.hid hc
                  have HFM := Lib.hid hf
                  clear hf hc
                  obtain ⟨lw, lo, la, lv, ls⟩ := f
                  have c1 : ∀ p : Later wr, p.1.cell? ⟨(ad.add (m * 5)).block, (ad.add (m * 5)).off + 1, none⟩ = some (.int .i64 lo) := fun p => HCK.out [] _ (O.keep.trans p.2 (by simp)) (by simp) 1 (by show 1 < 5; omega)
                  have c2 : ∀ p : Later wr, p.1.cell? ⟨(ad.add (m * 5)).block, (ad.add (m * 5)).off + 2, none⟩ = some (.int .i64 la) := fun p => HCK.out [] _ (O.keep.trans p.2 (by simp)) (by simp) 2 (by show 2 < 5; omega)
                  have c7 : ∀ (p : Later wr) (i : Nat), p.1.cell? ⟨g7, i, none⟩ = #[Value.int .i64 who, .int .i64 8, .int .i64 a, .int .i64 v, .bool sh][i]? := Later.cell (O.get 0 rfl)
                  by_cases h1 : lo = 8
                  · have q1 : (lo == 8) = true := by simpa using h1
                    by_cases h2 : la = a
                    · have q2 : (la == a) = true := by simpa using h2
                      have HY := Lib.hid (And.intro h1 h2)
                      clear h1 h2
                      go_wp2
                      refine wp_quiet_later (by kernel_rfl) (by kernel_rfl) ?_
                      repeat (first
                        | go_big_quiet_skip
                        | go_big_quiet_step (fail))
                      refine wpQuiet_nil ?_
                      intro _ hw
                      obtain ⟨p', rfl⟩ := hw
                      replace O := O.keeps p'.2
                      replace M := M.keeps p'.2 (by simp)
                      clear c1 c2 c7
                      generalize p'.1 = W at O M ⊢
                      clear q1 q2
                      go_wp2
                      go_roundg (k - (m + 1))
                      case measure => (have := HG.out; omega)
                      case rel => exact ⟨m + 1, by omega, rfl, by go_num, (by rw [aftN, if_pos (by rw [← HFM.out]; exact HY.out)]), O, M⟩
                    · have q2 : (la == a) = false := by simpa using h2
                      have HN := Lib.hid (show ¬ (lo = 8 ∧ la = a) from fun q => h2 q.2)
                      clear h1 h2
                      go_wp2
                      refine wp_quiet_later (by kernel_rfl) (by kernel_rfl) ?_
                      repeat (first
                        | go_big_quiet_skip
                        | go_big_quiet_step (fail))
                      refine wpQuiet_nil ?_
                      intro _ hw
                      obtain ⟨p', rfl⟩ := hw
                      replace O := O.keeps p'.2
                      replace M := M.keeps p'.2 (by simp)
                      clear c1 c2 c7
                      generalize p'.1 = W at O M ⊢
                      clear q1
                      go_wp2
                      go_roundg (k - (m + 1))
                      case measure => (have := HG.out; omega)
                      case rel => exact ⟨m + 1, by omega, rfl, by go_num, (by rw [aftN, if_neg (by rw [← HFM.out]; exact HN.out)]), O, M⟩
                  · have q1 : (lo == 8) = false := by simpa using h1
                    have HN := Lib.hid (show ¬ (lo = 8 ∧ la = a) from fun q => h1 q.1)
                    clear h1
                    go_wp2
                    refine wp_quiet_later (by kernel_rfl) (by kernel_rfl) ?_
                    repeat (first
                      | go_big_quiet_skip
                      | go_big_quiet_step (fail))
                    refine wpQuiet_nil ?_
                    intro _ hw
                    obtain ⟨p', rfl⟩ := hw
                    replace O := O.keeps p'.2
                    replace M := M.keeps p'.2 (by simp)
                    clear c1 c2 c7
                    generalize p'.1 = W at O M ⊢
                    clear q1
                    go_wp2
                    go_roundg (k - (m + 1))
                    case measure => (have := HG.out; omega)
                    case rel => exact ⟨m + 1, by omega, rfl, by go_num, (by rw [aftN, if_neg (by rw [← HFM.out]; exact HN.out)]), O, M⟩
                · obtain rfl : k = m := by omega
                  obtain ⟨af, haf⟩ : ∃ af, af = aftN E a k := ⟨_, rfl⟩
                  have hafl : af ≤ k := by rw [haf]; exact aftN_le E a k
                  rw [← haf]
                  have HAF := Lib.hid haf
                  clear haf HG
                  go_wp2
                  go_loopg [8, 16] (k - af) (fun g s8 s16 wr => ∃ m, m ≤ k ∧ g = k - m ∧ s16 = .int .i64 (m : Int) ∧ af ≤ m ∧ Own w wr [] (LI S A c R d g7 a3 ⟨who, 8, a, v, sh⟩) ∧ Mint w.heap.size wr s8 ((ownL (lkN E k) who) ++ natL (freeL E a af m)))
                  case atStart => exact ⟨af, hafl, by omega, rfl, by omega, O, by rw [freeL_none E a af af (Nat.le_refl _), show natL [] = [] from rfl, List.append_nil]; exact M⟩
                  case round =>
                    obtain ⟨m, hm, hgk, rfl, haf, O, M⟩ := hrel
                    have HG := Lib.hid hgk
                    clear hgk
                    by_cases hlt : m < k
                    · have g2 : ((m : Int)) < k := by omega
                      have g3 : ((m : Int)) < n := by omega
                      have g4 : (0 : Int) ≤ m := by omega
                      obtain ⟨ad', e', hc⟩ := EvsAt.row (u := w) HE.out (show m < n by omega)
                      cases e'
                      obtain ⟨f, hf⟩ : ∃ f, f = E m := ⟨_, rfl⟩
                      rw [← hf] at hc
                      have HCK := Lib.hid hc
                      have HFM := Lib.hid hf
                      clear hf hc
                      obtain ⟨lw, lo, la, lv, ls⟩ := f
                      have c1 : ∀ p : Later wr, p.1.cell? ⟨(ad.add (m * 5)).block, (ad.add (m * 5)).off + 1, none⟩ = some (.int .i64 lo) := fun p => HCK.out [] _ (O.keep.trans p.2 (by simp)) (by simp) 1 (by show 1 < 5; omega)
                      have c2 : ∀ p : Later wr, p.1.cell? ⟨(ad.add (m * 5)).block, (ad.add (m * 5)).off + 2, none⟩ = some (.int .i64 la) := fun p => HCK.out [] _ (O.keep.trans p.2 (by simp)) (by simp) 2 (by show 2 < 5; omega)
                      have c7 : ∀ (p : Later wr) (i : Nat), p.1.cell? ⟨g7, i, none⟩ = #[Value.int .i64 who, .int .i64 8, .int .i64 a, .int .i64 v, .bool sh][i]? := Later.cell (O.get 0 rfl)
                      by_cases h1 : lo = 9
                      · have q1 : (lo == 9) = true := by simpa using h1
                        by_cases h2 : la = a
                        · have q2 : (la == a) = true := by simpa using h2
                          have HY := Lib.hid (And.intro h1 h2)
                          clear h1 h2
                          go_wp2
                          refine wp_quiet_later (by kernel_rfl) (by kernel_rfl) ?_
                          repeat (first
                            | go_big_quiet_skip
                            | go_big_quiet_step (fail))
                          refine wpQuiet_nil ?_
                          intro _ hw
                          obtain ⟨p', rfl⟩ := hw
                          replace O := O.keeps p'.2
                          replace M := M.keeps p'.2 (by simp)
                          clear c1 c2 c7
                          generalize p'.1 = W at O M ⊢
                          clear q1 q2
                          have HFL := Lib.hid (freeL_len (E := E) a af m)
                          go_wp2_with (first
                            | (refine own_lit1 245 ((m : Int)) O rfl rfl rfl rfl ?_; clear O; intro W gl O K1 _; replace M := M.keeps K1 (by simp); clear K1; simp only [Act.put, List.setIfInBounds_toArray, List.set_cons_zero, List.set_cons_succ])
                            | (at_builtin; refine own_app w.heap.size _ ((ownL (lkN E k) who) ++ natL (freeL E a af m)) ((m : Int)) gl (.tmp 243) (.tmp 245) (O.drop_ 1) M rfl rfl rfl rfl ((O.get 0 rfl).cell 0) rfl (by simp [LI]) (by have := HOL.out; have := HFL.out; rw [List.length_append, natL_length]; omega) ?_; clear O M; intro v1 W O M; simp only [List.drop] at O; simp only [Act.put, List.setIfInBounds_toArray, List.set_cons_zero, List.set_cons_succ]))
                          go_roundg (k - (m + 1))
                          case measure => (have := HG.out; omega)
                          case rel => exact ⟨m + 1, by omega, rfl, by go_num, by omega, O, (by rw [freeL_succ, if_pos (by simp [isFree]; rw [← HFM.out]; exact ⟨HY.out, haf⟩), natL_append, ← List.append_assoc]; exact M)⟩
                        · have q2 : (la == a) = false := by simpa using h2
                          have HN := Lib.hid (show ¬ (lo = 9 ∧ la = a) from fun q => h2 q.2)
                          clear h1 h2
                          go_wp2
                          refine wp_quiet_later (by kernel_rfl) (by kernel_rfl) ?_
                          repeat (first
                            | go_big_quiet_skip
                            | go_big_quiet_step (fail))
                          refine wpQuiet_nil ?_
                          intro _ hw
                          obtain ⟨p', rfl⟩ := hw
                          replace O := O.keeps p'.2
                          replace M := M.keeps p'.2 (by simp)
                          clear c1 c2 c7
                          generalize p'.1 = W at O M ⊢
                          clear q1
                          go_wp2
                          go_roundg (k - (m + 1))
                          case measure => (have := HG.out; omega)
                          case rel => exact ⟨m + 1, by omega, rfl, by go_num, by omega, O, (by rw [freeL_succ, if_neg (by simp [isFree]; rw [← HFM.out]; intro q1 q2; exact absurd ⟨q1, q2⟩ HN.out), List.append_nil]; exact M)⟩
                      · have q1 : (lo == 9) = false := by simpa using h1
                        have HN := Lib.hid (show ¬ (lo = 9 ∧ la = a) from fun q => h1 q.1)
                        clear h1
                        go_wp2
                        refine wp_quiet_later (by kernel_rfl) (by kernel_rfl) ?_
                        repeat (first
                          | go_big_quiet_skip
                          | go_big_quiet_step (fail))
                        refine wpQuiet_nil ?_
                        intro _ hw
                        obtain ⟨p', rfl⟩ := hw
                        replace O := O.keeps p'.2
                        replace M := M.keeps p'.2 (by simp)
                        clear c1 c2 c7
                        generalize p'.1 = W at O M ⊢
                        clear q1
                        go_wp2
                        go_roundg (k - (m + 1))
                        case measure => (have := HG.out; omega)
                        case rel => exact ⟨m + 1, by omega, rfl, by go_num, by omega, O, (by rw [freeL_succ, if_neg (by simp [isFree]; rw [← HFM.out]; intro q1 q2; exact absurd ⟨q1, q2⟩ HN.out), List.append_nil]; exact M)⟩
                    · obtain rfl : k = m := by omega
                      have HRF := Lib.hid (show refM E (rmS S) k ⟨who, 8, a, v, sh⟩ = natL (freeL E a af k) by rw [HAF.out]; rfl)
                      have HFL := Lib.hid (freeL_len (E := E) a af k)
                      have HXL := Lib.hid (show ((ownL (lkN E k) who) ++ natL (freeL E a af k)).length ≤ 1000000 by have := HOL.out; have := HFL.out; rw [List.length_append, natL_length]; omega)
                      go_wp2_with (go_at_call 98; refine (rising_any _ ((ownL (lkN E k) who) ++ natL (freeL E a af k)) HXL.out M.list).mono ?_; rintro e W ⟨⟨r, ys, rfl, MR, HR⟩, K⟩)
                      go_ret
                      refine ⟨⟨_, rfl, mint_low (b := w.heap.size) ?_ O.keep.size⟩, O.keep.trans K (by simp)⟩
                      have hfin := into_rose (E := E) (rm := rmS S) (j := k) (ys := ys) (by rw [← HEJ.out]; rw [show refM E (rmS S) k _ = _ from HRF.out]; exact HR) (fun h6 hs => ok_take HOK.out h6 hs) (fun h6 hs => ok_shut HOK.out h6 hs)
                      rw [← hfin]
                      exact MR
            · by_cases o11 : op = 11
              · exfalso
                have := HOP.out
                omega
              · exfalso
                have := HOP.out
                omega
end
end Go.Proofs.Ytakmcpadkanggaa
namespace Go.Proofs.Ytakmcpadkanggaa
open Go.RowKit Go.Maps Go.Deep
section
variable {w : World} {S : Sys} {A : Option Addr} {c : Nat} {R : Option Addr} {d n : Nat} {E : Nat → Ev} {B : Option Addr} {cb : Nat}
set_option maxRecDepth 100000 in
set_option maxHeartbeats 4000000 in
theorem into_o (hS : SysIn w S A c R d) (hE : EvsAt w B n E) (hn : n ≤ 40000) (hrm : ∀ q, q < S.nr → 1 ≤ S.rm q ∧ S.rm q ≤ 1000000) (j : Nat) (hj : j < n) (hok : okE S (stN E j) (E j) = true) (hop : (E j).op ≠ 6 ∧ (E j).op ≠ 5 ∧ (E j).op ≠ 8 ∧ (E j).op ≠ 11) : Calls Try.prog 71 #[.agg (sysV S A c R d), .slice B n cb, .int .i64 (j : Int)] w (IntoPost w S E j) := by
  have O := Own.start w []
  have HE := Lib.hid hE
  have g1 : ((j : Nat) : Int) < n := by omega
  have g0 : (0 : Int) ≤ j := by omega
  obtain ⟨ad, rfl, hc⟩ := EvsAt.row (u := w) HE.out hj
  have HC := Lib.hid hc
  obtain ⟨e, he⟩ : ∃ e, e = E j := ⟨_, rfl⟩
  rw [← he] at hc HC hop
  have HEJ := Lib.hid he
  have HRO := Lib.hid hS.rooms
  have HRM := Lib.hid hrm
  have HOK := Lib.hid hok
  clear hc hE he hS hrm hok
  obtain ⟨who, op, a, v, sh⟩ := e
  have HOP := Lib.hid hop
  clear hop
  go_enter Try.func71, Try.ntmps71
  go_wp2_with (first
    | go_big_skip
    | (refine own_box 3 (sysV S A c R d) O rfl rfl rfl rfl ?_; clear O; intro W a3 O; simp only [Act.put, List.setIfInBounds_toArray, List.set_cons_zero, List.set_cons_succ])
    | (refine wpList_load_at 21 rfl rfl rfl rfl (HC.out [] _ O.keep (by simp)) Try.underlying37 rfl (by kernel_rfl) ?_; simp only [Act.put, List.setIfInBounds_toArray, List.set_cons_zero, List.set_cons_succ])
    | (refine own_alloc 7 (evC ⟨0, 0, 0, 0, false⟩) O rfl rfl rfl (fun _ => by kernel_rfl) ?_; clear O; intro W g7 O; simp only [Act.put, List.setIfInBounds_toArray, List.set_cons_zero, List.set_cons_succ])
    | (refine own_store_row 0 (.tmp 7) (.tmp 21) O rfl rfl rfl rfl rfl rfl (by kernel_rfl) (by rfl) (evC_cell _) ?_; clear O; intro W O; simp only [List.set_cons_zero] at O))
  go_loopg [9, 10, 11, 12] j (fun g s9 s10 s11 s12 wr => ∃ k, k ≤ j ∧ g = j - k ∧ s12 = .int .i64 (k : Int) ∧ s9 = .int .i64 (oI (lastN E who k)) ∧ s10 = .int .i64 (oI (bornN E who k)) ∧ s11 = .int .i64 ((pickL (samE E ⟨who, op, a, v, sh⟩) k).length : Int) ∧ Own w wr [] (LI S A c R d g7 a3 ⟨who, op, a, v, sh⟩))
  case atStart => exact ⟨0, by omega, by omega, rfl, rfl, rfl, rfl, O⟩
  case round =>
    obtain ⟨k, hk, hgk, rfl, rfl, rfl, rfl, O⟩ := hrel
    have HG := Lib.hid hgk
    clear hgk
    by_cases hlt : k < j
    · have g2 : ((k : Int)) < j := by omega
      have g3 : ((k : Int)) < n := by omega
      have g4 : (0 : Int) ≤ k := by omega
      obtain ⟨ad', e', hc⟩ := EvsAt.row (u := w) HE.out (show k < n by omega)
      cases e'
      obtain ⟨f, hf⟩ : ∃ f, f = E k := ⟨_, rfl⟩
      rw [← hf] at hc
      have HCK := Lib.hid hc
      have HLN := Lib.hid (show lastN E who (k + 1) = if f.who = who then some (k : Int) else lastN E who k by rw [hf]; rfl)
      have HBN := Lib.hid (show bornN E who (k + 1) = if f.op = 14 ∧ 0 < f.v ∧ f.v = who then some (k : Int) else bornN E who k by rw [hf]; rfl)
      have HSM := Lib.hid (show samE E ⟨who, op, a, v, sh⟩ k = ((((op == 5) && (f.op == 5)) || ((op == 6) && (!sh && ((f.op == 6) && !f.sh)))) && (f.a == a)) by rw [hf]; rfl)
      have HPL := Lib.hid (show (pickL (samE E ⟨who, op, a, v, sh⟩) (k + 1)).length = (pickL (samE E ⟨who, op, a, v, sh⟩) k).length + if samE E ⟨who, op, a, v, sh⟩ k then 1 else 0 by rw [pickL_succ, List.length_append]; split <;> rfl)
      have hpl := pickL_length (samE E ⟨who, op, a, v, sh⟩) k
      generalize samE E ⟨who, op, a, v, sh⟩ k = sm at HSM HPL
      generalize hnk : (pickL (samE E ⟨who, op, a, v, sh⟩) k).length = nk at hpl HPL ⊢
      clear hf hc hnk
      obtain ⟨lw, lo, la, lv, ls⟩ := f
      have c0 : ∀ p : Later wr, p.1.cell? (ad.add (k * 5)) = some (.int .i64 lw) := fun p => HCK.out [] _ (O.keep.trans p.2 (by simp)) (by simp) 0 (by show 0 < 5; omega)
      have c1 : ∀ p : Later wr, p.1.cell? ⟨(ad.add (k * 5)).block, (ad.add (k * 5)).off + 1, none⟩ = some (.int .i64 lo) := fun p => HCK.out [] _ (O.keep.trans p.2 (by simp)) (by simp) 1 (by show 1 < 5; omega)
      have c2 : ∀ p : Later wr, p.1.cell? ⟨(ad.add (k * 5)).block, (ad.add (k * 5)).off + 2, none⟩ = some (.int .i64 la) := fun p => HCK.out [] _ (O.keep.trans p.2 (by simp)) (by simp) 2 (by show 2 < 5; omega)
      have c3 : ∀ p : Later wr, p.1.cell? ⟨(ad.add (k * 5)).block, (ad.add (k * 5)).off + 3, none⟩ = some (.int .i64 lv) := fun p => HCK.out [] _ (O.keep.trans p.2 (by simp)) (by simp) 3 (by show 3 < 5; omega)
      have c4 : ∀ p : Later wr, p.1.cell? ⟨(ad.add (k * 5)).block, (ad.add (k * 5)).off + 4, none⟩ = some (.bool ls) := fun p => HCK.out [] _ (O.keep.trans p.2 (by simp)) (by simp) 4 (by show 4 < 5; omega)
      have c7 : ∀ (p : Later wr) (i : Nat), p.1.cell? ⟨g7, i, none⟩ = #[Value.int .i64 who, .int .i64 op, .int .i64 a, .int .i64 v, .bool sh][i]? := Later.cell (O.get 0 rfl)
      go_upto_region 9 with (fail)
      refine wp_quiet_later (by kernel_rfl) (by kernel_rfl) ?_
      repeat (first
        | go_big_quiet_skip
        | go_big_quiet_step (fail))
      refine wpQuiet_nil ?_
      intro _ hw
      obtain ⟨p', rfl⟩ := hw
      replace O := O.keeps p'.2
      clear c0 c1 c2 c3 c4 c7
      generalize p'.1 = W at O ⊢
      go_upto_if 34 with (fail)
      go_cut [9] (fun s9 wx => s9 = .int .i64 (oI (lastN E who (k + 1))) ∧ Own w wx [] (LI S A c R d g7 a3 ⟨who, op, a, v, sh⟩))
      case first =>
        by_cases h : lw = who
        · have e1 : (lw == who) = true := by simpa using h
          have HN := Lib.hid (HLN.out.trans (if_pos h))
          clear h
          go_wp2
          go_meet
          exact ⟨by rw [HN.out]; rfl, O⟩
        · have e1 : (lw == who) = false := by simpa using h
          have HN := Lib.hid (HLN.out.trans (if_neg h))
          clear h
          go_wp2
          go_meet
          exact ⟨by rw [HN.out], O⟩
      case rest =>
        obtain ⟨rfl, O⟩ := hcut
        clear HLN
        have c0 : ∀ p : Later wc, p.1.cell? (ad.add (k * 5)) = some (.int .i64 lw) := fun p => HCK.out [] _ (O.keep.trans p.2 (by simp)) (by simp) 0 (by show 0 < 5; omega)
        have c1 : ∀ p : Later wc, p.1.cell? ⟨(ad.add (k * 5)).block, (ad.add (k * 5)).off + 1, none⟩ = some (.int .i64 lo) := fun p => HCK.out [] _ (O.keep.trans p.2 (by simp)) (by simp) 1 (by show 1 < 5; omega)
        have c2 : ∀ p : Later wc, p.1.cell? ⟨(ad.add (k * 5)).block, (ad.add (k * 5)).off + 2, none⟩ = some (.int .i64 la) := fun p => HCK.out [] _ (O.keep.trans p.2 (by simp)) (by simp) 2 (by show 2 < 5; omega)
        have c3 : ∀ p : Later wc, p.1.cell? ⟨(ad.add (k * 5)).block, (ad.add (k * 5)).off + 3, none⟩ = some (.int .i64 lv) := fun p => HCK.out [] _ (O.keep.trans p.2 (by simp)) (by simp) 3 (by show 3 < 5; omega)
        have c4 : ∀ p : Later wc, p.1.cell? ⟨(ad.add (k * 5)).block, (ad.add (k * 5)).off + 4, none⟩ = some (.bool ls) := fun p => HCK.out [] _ (O.keep.trans p.2 (by simp)) (by simp) 4 (by show 4 < 5; omega)
        have c7 : ∀ (p : Later wc) (i : Nat), p.1.cell? ⟨g7, i, none⟩ = #[Value.int .i64 who, .int .i64 op, .int .i64 a, .int .i64 v, .bool sh][i]? := Later.cell (O.get 0 rfl)
        obtain ⟨bB, hbB⟩ : ∃ bB, bB = decide (lo = 14 ∧ 0 < lv ∧ lv = who) := ⟨_, rfl⟩
        have HBB := Lib.hid hbB
        clear hbB
        go_upto_region 11 with (fail)
        go_cut [56] (fun s wx => s = .bool bB ∧ Own w wx [] (LI S A c R d g7 a3 ⟨who, op, a, v, sh⟩))
        case first =>
          by_cases h1 : lo = 14
          · have qh1 : (lo == 14) = true := by simpa using h1
            by_cases h2 : lv = who
            · have qh2 : (lv == who) = true := by simpa using h2
              by_cases h3 : 0 < who
              · have qh3 : decide (0 < who) = true := decide_eq_true h3
                have HV := Lib.hid (show bB = true by rw [HBB.out]; simp [qh1, h1, qh2, h2, qh3, h3])
                clear h1 h2 h3
                refine wp_quiet_later (by kernel_rfl) (by kernel_rfl) ?_
                repeat (first
                  | go_big_quiet_skip
                  | go_big_quiet_step (fail))
                refine wpQuiet_nil ?_
                intro _ hw
                obtain ⟨p', rfl⟩ := hw
                replace O := O.keeps p'.2
                clear c0 c1 c2 c3 c4 c7 qh1 qh2 qh3
                generalize p'.1 = W at O ⊢
                go_wp2
                go_meet
                exact ⟨by rw [HV.out], O⟩
              · have qh3 : decide (0 < who) = false := decide_eq_false h3
                have HV := Lib.hid (show bB = false by rw [HBB.out]; simp [qh1, h1, qh2, h2, qh3, h3])
                clear h1 h2 h3
                refine wp_quiet_later (by kernel_rfl) (by kernel_rfl) ?_
                repeat (first
                  | go_big_quiet_skip
                  | go_big_quiet_step (fail))
                refine wpQuiet_nil ?_
                intro _ hw
                obtain ⟨p', rfl⟩ := hw
                replace O := O.keeps p'.2
                clear c0 c1 c2 c3 c4 c7 qh1 qh2 qh3
                generalize p'.1 = W at O ⊢
                go_wp2
                go_meet
                exact ⟨by rw [HV.out], O⟩
            · have qh2 : (lv == who) = false := by simpa using h2
              have HV := Lib.hid (show bB = false by rw [HBB.out]; simp [qh1, h1, qh2, h2])
              clear h1 h2
              refine wp_quiet_later (by kernel_rfl) (by kernel_rfl) ?_
              repeat (first
                | go_big_quiet_skip
                | go_big_quiet_step (fail))
              refine wpQuiet_nil ?_
              intro _ hw
              obtain ⟨p', rfl⟩ := hw
              replace O := O.keeps p'.2
              clear c0 c1 c2 c3 c4 c7 qh1 qh2
              generalize p'.1 = W at O ⊢
              go_wp2
              go_meet
              exact ⟨by rw [HV.out], O⟩
          · have qh1 : (lo == 14) = false := by simpa using h1
            have HV := Lib.hid (show bB = false by rw [HBB.out]; simp [qh1, h1])
            clear h1
            refine wp_quiet_later (by kernel_rfl) (by kernel_rfl) ?_
            repeat (first
              | go_big_quiet_skip
              | go_big_quiet_step (fail))
            refine wpQuiet_nil ?_
            intro _ hw
            obtain ⟨p', rfl⟩ := hw
            replace O := O.keeps p'.2
            clear c0 c1 c2 c3 c4 c7 qh1
            generalize p'.1 = W at O ⊢
            go_wp2
            go_meet
            exact ⟨by rw [HV.out], O⟩
        case rest =>
          obtain ⟨rfl, O⟩ := hcut
          clear c0 c1 c2 c3 c4 c7
          go_upto_if 56 with (fail)
          go_cut [10] (fun s10 wx => s10 = .int .i64 (oI (bornN E who (k + 1))) ∧ Own w wx [] (LI S A c R d g7 a3 ⟨who, op, a, v, sh⟩))
          case first =>
            cases bB with
            | true =>
              have HN := Lib.hid (HBN.out.trans (if_pos (of_decide_eq_true HBB.out.symm)))
              go_wp2
              go_meet
              exact ⟨by rw [HN.out]; rfl, O⟩
            | false =>
              have HN := Lib.hid (HBN.out.trans (if_neg (of_decide_eq_false HBB.out.symm)))
              go_wp2
              go_meet
              exact ⟨by rw [HN.out], O⟩
          case rest =>
            obtain ⟨rfl, O⟩ := hcut
            clear HBN HBB
            have c0 : ∀ p : Later wc, p.1.cell? (ad.add (k * 5)) = some (.int .i64 lw) := fun p => HCK.out [] _ (O.keep.trans p.2 (by simp)) (by simp) 0 (by show 0 < 5; omega)
            have c1 : ∀ p : Later wc, p.1.cell? ⟨(ad.add (k * 5)).block, (ad.add (k * 5)).off + 1, none⟩ = some (.int .i64 lo) := fun p => HCK.out [] _ (O.keep.trans p.2 (by simp)) (by simp) 1 (by show 1 < 5; omega)
            have c2 : ∀ p : Later wc, p.1.cell? ⟨(ad.add (k * 5)).block, (ad.add (k * 5)).off + 2, none⟩ = some (.int .i64 la) := fun p => HCK.out [] _ (O.keep.trans p.2 (by simp)) (by simp) 2 (by show 2 < 5; omega)
            have c3 : ∀ p : Later wc, p.1.cell? ⟨(ad.add (k * 5)).block, (ad.add (k * 5)).off + 3, none⟩ = some (.int .i64 lv) := fun p => HCK.out [] _ (O.keep.trans p.2 (by simp)) (by simp) 3 (by show 3 < 5; omega)
            have c4 : ∀ p : Later wc, p.1.cell? ⟨(ad.add (k * 5)).block, (ad.add (k * 5)).off + 4, none⟩ = some (.bool ls) := fun p => HCK.out [] _ (O.keep.trans p.2 (by simp)) (by simp) 4 (by show 4 < 5; omega)
            have c7 : ∀ (p : Later wc) (i : Nat), p.1.cell? ⟨g7, i, none⟩ = #[Value.int .i64 who, .int .i64 op, .int .i64 a, .int .i64 v, .bool sh][i]? := Later.cell (O.get 0 rfl)
            go_upto_region 13 with (fail)
            go_cut [104] (fun s wx => s = .bool sm ∧ Own w wx [] (LI S A c R d g7 a3 ⟨who, op, a, v, sh⟩))
            case first =>
              have q1 : (op == 5) = false := by have h := HOP.out; simpa using (show ¬ op = 5 by omega)
              have q3 : (op == 6) = false := by have h := HOP.out; simpa using (show ¬ op = 6 by omega)
              have HV := Lib.hid (show sm = false by rw [HSM.out]; simp [q1, q3])
              refine wp_quiet_later (by kernel_rfl) (by kernel_rfl) ?_
              repeat (first
                | go_big_quiet_skip
                | go_big_quiet_step (fail))
              refine wpQuiet_nil ?_
              intro _ hw
              obtain ⟨p', rfl⟩ := hw
              replace O := O.keeps p'.2
              clear c0 c1 c2 c3 c4 c7 q1 q3
              generalize p'.1 = W at O ⊢
              go_wp2
              go_meet
              exact ⟨by rw [HV.out], O⟩
            case rest =>
              obtain ⟨rfl, O⟩ := hcut
              clear c0 c1 c2 c3 c4 c7 HSM
              cases sm with
              | true =>
                go_wp2
                go_roundg (j - (k + 1))
                case measure => (have := HG.out; omega)
                case rel => exact ⟨k + 1, by omega, rfl, by go_num, rfl, rfl, by rw [HPL.out]; go_num, O⟩
              | false =>
                go_wp2
                go_roundg (j - (k + 1))
                case measure => (have := HG.out; omega)
                case rel => exact ⟨k + 1, by omega, rfl, by go_num, rfl, rfl, by rw [HPL.out]; rfl, O⟩
    · obtain rfl : k = j := by omega
      clear HG g1
      obtain ⟨x9, hx9⟩ : ∃ x, x = oI (lastN E who k) := ⟨_, rfl⟩
      obtain ⟨x10, hx10⟩ : ∃ x, x = oI (bornN E who k) := ⟨_, rfl⟩
      obtain ⟨nk, hnk⟩ : ∃ x, x = (pickL (samE E ⟨who, op, a, v, sh⟩) k).length := ⟨_, rfl⟩
      rw [← hx9, ← hx10, ← hnk]
      have HNK := Lib.hid hnk
      have HX9 := Lib.hid hx9
      have HX10 := Lib.hid hx10
      have hnkk : nk ≤ k := by rw [hnk]; exact pickL_length _ _
      clear hx9 hx10 hnk
      go_upto_if 108 with (fail)
      go_cut [8] (fun s8 wx => Own w wx [] (LI S A c R d g7 a3 ⟨who, op, a, v, sh⟩) ∧ Mint w.heap.size wx s8 (ownL (lkN E k) who))
      case first =>
        have M := Mint.nil w.heap.size wr
        cases hl : lastN E who k with
        | some i =>
          have HO := Lib.hid (show ownL (lkN E k) who = [] ++ [x9] by rw [ownL_lk, hl, HX9.out, hl]; rfl)
          have q1 : (0 : Int) ≤ x9 := by rw [HX9.out, hl]; exact (lastN_lt hl).1
          clear hl
          go_wp2_with (first
            | (refine own_lit1 111 (x9) O rfl rfl rfl rfl ?_; clear O; intro W gl O K1 _; replace M := M.keeps K1 (by simp); clear K1; simp only [Act.put, List.setIfInBounds_toArray, List.set_cons_zero, List.set_cons_succ])
            | (at_builtin; refine own_app w.heap.size _ ([]) (x9) gl (.tmp 109) (.tmp 111) (O.drop_ 1) M rfl rfl rfl rfl ((O.get 0 rfl).cell 0) rfl (by simp [LI]) (by simp) ?_; clear O M; intro v1 W O M; simp only [List.drop] at O; simp only [Act.put, List.setIfInBounds_toArray, List.set_cons_zero, List.set_cons_succ]))
          go_meet
          exact ⟨O, by rw [HO.out]; exact M⟩
        | none =>
          have q1 : ¬ (0 : Int) ≤ x9 := by rw [HX9.out, hl]; decide
          cases hb : bornN E who k with
          | some i =>
            have HO := Lib.hid (show ownL (lkN E k) who = [] ++ [x10] by rw [ownL_lk, hl, hb, HX10.out, hb]; rfl)
            have q2 : (0 : Int) ≤ x10 := by rw [HX10.out, hb]; exact (bornN_lt hb).1
            clear hl hb
            go_wp2_with (first
              | (refine own_lit1 117 (x10) O rfl rfl rfl rfl ?_; clear O; intro W gl O K1 _; replace M := M.keeps K1 (by simp); clear K1; simp only [Act.put, List.setIfInBounds_toArray, List.set_cons_zero, List.set_cons_succ])
              | (at_builtin; refine own_app w.heap.size _ ([]) (x10) gl (.tmp 115) (.tmp 117) (O.drop_ 1) M rfl rfl rfl rfl ((O.get 0 rfl).cell 0) rfl (by simp [LI]) (by simp) ?_; clear O M; intro v1 W O M; simp only [List.drop] at O; simp only [Act.put, List.setIfInBounds_toArray, List.set_cons_zero, List.set_cons_succ]))
            go_meet
            exact ⟨O, by rw [HO.out]; exact M⟩
          | none =>
            have HO := Lib.hid (show ownL (lkN E k) who = [] by rw [ownL_lk, hl, hb])
            have q2 : ¬ (0 : Int) ≤ x10 := by rw [HX10.out, hb]; decide
            clear hl hb
            go_wp2
            go_meet
            exact ⟨O, by rw [HO.out]; exact M⟩
      case rest =>
        obtain ⟨O, M⟩ := hcut
        have HOL := Lib.hid (show (ownL (lkN E k) who).length ≤ 1 by rw [ownL_lk]; split <;> (try split) <;> simp)
        clear HX9 HX10
        by_cases o6 : op = 6
        · exfalso
          have := HOP.out
          omega
        · by_cases o5 : op = 5
          · exfalso
            have := HOP.out
            omega
          · by_cases o8 : op = 8
            · exfalso
              have := HOP.out
              omega
            · by_cases o11 : op = 11
              · exfalso
                have := HOP.out
                omega
              · have HRF := Lib.hid (show refM E (rmS S) k ⟨who, op, a, v, sh⟩ = [] by simp [refM, o6, o5, o8, o11])
                have q6 : (op == 6) = false := by simpa using o6
                have q5 : (op == 5) = false := by simpa using o5
                have q8 : (op == 8) = false := by simpa using o8
                have q11 : (op == 11) = false := by simpa using o11
                clear o6 o5 o8 o11
                have c7 : ∀ i : Nat, (wc).cell? ⟨g7, i, none⟩ = #[Value.int .i64 who, .int .i64 op, .int .i64 a, .int .i64 v, .bool sh][i]? := (O.get 0 rfl).cell
                rw [← List.append_nil (ownL (lkN E k) who)] at M
                have HXL := Lib.hid (show ((ownL (lkN E k) who) ++ []).length ≤ 1000000 by have := HOL.out; rw [List.append_nil]; omega)
                go_wp2_with (first | go_big_skip | go_at_call 98; refine (rising_any _ ((ownL (lkN E k) who) ++ []) HXL.out M.list).mono ?_; rintro e W ⟨⟨r, ys, rfl, MR, HR⟩, K⟩)
                go_ret
                refine ⟨⟨_, rfl, mint_low (b := w.heap.size) ?_ O.keep.size⟩, O.keep.trans K (by simp)⟩
                have hfin := into_rose (E := E) (rm := rmS S) (j := k) (ys := ys) (by rw [← HEJ.out]; rw [show refM E (rmS S) k _ = _ from HRF.out]; exact HR) (fun h6 hs => ok_take HOK.out h6 hs) (fun h6 hs => ok_shut HOK.out h6 hs)
                rw [← hfin]
                exact MR
end
end Go.Proofs.Ytakmcpadkanggaa
namespace Go.Proofs.Ytakmcpadkanggaa
open Go.RowKit Go.Maps Go.Deep
section
variable {w : World} {S : Sys} {A : Option Addr} {c : Nat} {R : Option Addr} {d n : Nat} {E : Nat → Ev} {B : Option Addr} {cb : Nat}
set_option maxRecDepth 100000 in
set_option maxHeartbeats 4000000 in
theorem into_11 (hS : SysIn w S A c R d) (hE : EvsAt w B n E) (hn : n ≤ 40000) (hrm : ∀ q, q < S.nr → 1 ≤ S.rm q ∧ S.rm q ≤ 1000000) (j : Nat) (hj : j < n) (hok : okE S (stN E j) (E j) = true) (hop : (E j).op = 11) : Calls Try.prog 71 #[.agg (sysV S A c R d), .slice B n cb, .int .i64 (j : Int)] w (IntoPost w S E j) := by
  have O := Own.start w []
  have HE := Lib.hid hE
  have g1 : ((j : Nat) : Int) < n := by omega
  have g0 : (0 : Int) ≤ j := by omega
  obtain ⟨ad, rfl, hc⟩ := EvsAt.row (u := w) HE.out hj
  have HC := Lib.hid hc
  obtain ⟨e, he⟩ : ∃ e, e = E j := ⟨_, rfl⟩
  rw [← he] at hc HC hop
  have HEJ := Lib.hid he
  have HRO := Lib.hid hS.rooms
  have HRM := Lib.hid hrm
  have HOK := Lib.hid hok
  clear hc hE he hS hrm hok
  obtain ⟨who, op, a, v, sh⟩ := e
  have HOP := Lib.hid hop
  clear hop
  go_enter Try.func71, Try.ntmps71
  go_wp2_with (first
    | go_big_skip
    | (refine own_box 3 (sysV S A c R d) O rfl rfl rfl rfl ?_; clear O; intro W a3 O; simp only [Act.put, List.setIfInBounds_toArray, List.set_cons_zero, List.set_cons_succ])
    | (refine wpList_load_at 21 rfl rfl rfl rfl (HC.out [] _ O.keep (by simp)) Try.underlying37 rfl (by kernel_rfl) ?_; simp only [Act.put, List.setIfInBounds_toArray, List.set_cons_zero, List.set_cons_succ])
    | (refine own_alloc 7 (evC ⟨0, 0, 0, 0, false⟩) O rfl rfl rfl (fun _ => by kernel_rfl) ?_; clear O; intro W g7 O; simp only [Act.put, List.setIfInBounds_toArray, List.set_cons_zero, List.set_cons_succ])
    | (refine own_store_row 0 (.tmp 7) (.tmp 21) O rfl rfl rfl rfl rfl rfl (by kernel_rfl) (by rfl) (evC_cell _) ?_; clear O; intro W O; simp only [List.set_cons_zero] at O))
  go_loopg [9, 10, 11, 12] j (fun g s9 s10 s11 s12 wr => ∃ k, k ≤ j ∧ g = j - k ∧ s12 = .int .i64 (k : Int) ∧ s9 = .int .i64 (oI (lastN E who k)) ∧ s10 = .int .i64 (oI (bornN E who k)) ∧ s11 = .int .i64 ((pickL (samE E ⟨who, op, a, v, sh⟩) k).length : Int) ∧ Own w wr [] (LI S A c R d g7 a3 ⟨who, op, a, v, sh⟩))
  case atStart => exact ⟨0, by omega, by omega, rfl, rfl, rfl, rfl, O⟩
  case round =>
    obtain ⟨k, hk, hgk, rfl, rfl, rfl, rfl, O⟩ := hrel
    have HG := Lib.hid hgk
    clear hgk
    by_cases hlt : k < j
    · have g2 : ((k : Int)) < j := by omega
      have g3 : ((k : Int)) < n := by omega
      have g4 : (0 : Int) ≤ k := by omega
      obtain ⟨ad', e', hc⟩ := EvsAt.row (u := w) HE.out (show k < n by omega)
      cases e'
      obtain ⟨f, hf⟩ : ∃ f, f = E k := ⟨_, rfl⟩
      rw [← hf] at hc
      have HCK := Lib.hid hc
      have HLN := Lib.hid (show lastN E who (k + 1) = if f.who = who then some (k : Int) else lastN E who k by rw [hf]; rfl)
      have HBN := Lib.hid (show bornN E who (k + 1) = if f.op = 14 ∧ 0 < f.v ∧ f.v = who then some (k : Int) else bornN E who k by rw [hf]; rfl)
      have HSM := Lib.hid (show samE E ⟨who, op, a, v, sh⟩ k = ((((op == 5) && (f.op == 5)) || ((op == 6) && (!sh && ((f.op == 6) && !f.sh)))) && (f.a == a)) by rw [hf]; rfl)
      have HPL := Lib.hid (show (pickL (samE E ⟨who, op, a, v, sh⟩) (k + 1)).length = (pickL (samE E ⟨who, op, a, v, sh⟩) k).length + if samE E ⟨who, op, a, v, sh⟩ k then 1 else 0 by rw [pickL_succ, List.length_append]; split <;> rfl)
      have hpl := pickL_length (samE E ⟨who, op, a, v, sh⟩) k
      generalize samE E ⟨who, op, a, v, sh⟩ k = sm at HSM HPL
      generalize hnk : (pickL (samE E ⟨who, op, a, v, sh⟩) k).length = nk at hpl HPL ⊢
      clear hf hc hnk
      obtain ⟨lw, lo, la, lv, ls⟩ := f
      have c0 : ∀ p : Later wr, p.1.cell? (ad.add (k * 5)) = some (.int .i64 lw) := fun p => HCK.out [] _ (O.keep.trans p.2 (by simp)) (by simp) 0 (by show 0 < 5; omega)
      have c1 : ∀ p : Later wr, p.1.cell? ⟨(ad.add (k * 5)).block, (ad.add (k * 5)).off + 1, none⟩ = some (.int .i64 lo) := fun p => HCK.out [] _ (O.keep.trans p.2 (by simp)) (by simp) 1 (by show 1 < 5; omega)
      have c2 : ∀ p : Later wr, p.1.cell? ⟨(ad.add (k * 5)).block, (ad.add (k * 5)).off + 2, none⟩ = some (.int .i64 la) := fun p => HCK.out [] _ (O.keep.trans p.2 (by simp)) (by simp) 2 (by show 2 < 5; omega)
      have c3 : ∀ p : Later wr, p.1.cell? ⟨(ad.add (k * 5)).block, (ad.add (k * 5)).off + 3, none⟩ = some (.int .i64 lv) := fun p => HCK.out [] _ (O.keep.trans p.2 (by simp)) (by simp) 3 (by show 3 < 5; omega)
      have c4 : ∀ p : Later wr, p.1.cell? ⟨(ad.add (k * 5)).block, (ad.add (k * 5)).off + 4, none⟩ = some (.bool ls) := fun p => HCK.out [] _ (O.keep.trans p.2 (by simp)) (by simp) 4 (by show 4 < 5; omega)
      have c7 : ∀ (p : Later wr) (i : Nat), p.1.cell? ⟨g7, i, none⟩ = #[Value.int .i64 who, .int .i64 op, .int .i64 a, .int .i64 v, .bool sh][i]? := Later.cell (O.get 0 rfl)
      go_upto_region 9 with (fail)
      refine wp_quiet_later (by kernel_rfl) (by kernel_rfl) ?_
      repeat (first
        | go_big_quiet_skip
        | go_big_quiet_step (fail))
      refine wpQuiet_nil ?_
      intro _ hw
      obtain ⟨p', rfl⟩ := hw
      replace O := O.keeps p'.2
      clear c0 c1 c2 c3 c4 c7
      generalize p'.1 = W at O ⊢
      go_upto_if 34 with (fail)
      go_cut [9] (fun s9 wx => s9 = .int .i64 (oI (lastN E who (k + 1))) ∧ Own w wx [] (LI S A c R d g7 a3 ⟨who, op, a, v, sh⟩))
      case first =>
        by_cases h : lw = who
        · have e1 : (lw == who) = true := by simpa using h
          have HN := Lib.hid (HLN.out.trans (if_pos h))
          clear h
          go_wp2
          go_meet
          exact ⟨by rw [HN.out]; rfl, O⟩
        · have e1 : (lw == who) = false := by simpa using h
          have HN := Lib.hid (HLN.out.trans (if_neg h))
          clear h
          go_wp2
          go_meet
          exact ⟨by rw [HN.out], O⟩
      case rest =>
        obtain ⟨rfl, O⟩ := hcut
        clear HLN
        have c0 : ∀ p : Later wc, p.1.cell? (ad.add (k * 5)) = some (.int .i64 lw) := fun p => HCK.out [] _ (O.keep.trans p.2 (by simp)) (by simp) 0 (by show 0 < 5; omega)
        have c1 : ∀ p : Later wc, p.1.cell? ⟨(ad.add (k * 5)).block, (ad.add (k * 5)).off + 1, none⟩ = some (.int .i64 lo) := fun p => HCK.out [] _ (O.keep.trans p.2 (by simp)) (by simp) 1 (by show 1 < 5; omega)
        have c2 : ∀ p : Later wc, p.1.cell? ⟨(ad.add (k * 5)).block, (ad.add (k * 5)).off + 2, none⟩ = some (.int .i64 la) := fun p => HCK.out [] _ (O.keep.trans p.2 (by simp)) (by simp) 2 (by show 2 < 5; omega)
        have c3 : ∀ p : Later wc, p.1.cell? ⟨(ad.add (k * 5)).block, (ad.add (k * 5)).off + 3, none⟩ = some (.int .i64 lv) := fun p => HCK.out [] _ (O.keep.trans p.2 (by simp)) (by simp) 3 (by show 3 < 5; omega)
        have c4 : ∀ p : Later wc, p.1.cell? ⟨(ad.add (k * 5)).block, (ad.add (k * 5)).off + 4, none⟩ = some (.bool ls) := fun p => HCK.out [] _ (O.keep.trans p.2 (by simp)) (by simp) 4 (by show 4 < 5; omega)
        have c7 : ∀ (p : Later wc) (i : Nat), p.1.cell? ⟨g7, i, none⟩ = #[Value.int .i64 who, .int .i64 op, .int .i64 a, .int .i64 v, .bool sh][i]? := Later.cell (O.get 0 rfl)
        obtain ⟨bB, hbB⟩ : ∃ bB, bB = decide (lo = 14 ∧ 0 < lv ∧ lv = who) := ⟨_, rfl⟩
        have HBB := Lib.hid hbB
        clear hbB
        go_upto_region 11 with (fail)
        go_cut [56] (fun s wx => s = .bool bB ∧ Own w wx [] (LI S A c R d g7 a3 ⟨who, op, a, v, sh⟩))
        case first =>
          by_cases h1 : lo = 14
          · have qh1 : (lo == 14) = true := by simpa using h1
            by_cases h2 : lv = who
            · have qh2 : (lv == who) = true := by simpa using h2
              by_cases h3 : 0 < who
              · have qh3 : decide (0 < who) = true := decide_eq_true h3
                have HV := Lib.hid (show bB = true by rw [HBB.out]; simp [qh1, h1, qh2, h2, qh3, h3])
                clear h1 h2 h3
                refine wp_quiet_later (by kernel_rfl) (by kernel_rfl) ?_
                repeat (first
                  | go_big_quiet_skip
                  | go_big_quiet_step (fail))
                refine wpQuiet_nil ?_
                intro _ hw
                obtain ⟨p', rfl⟩ := hw
                replace O := O.keeps p'.2
                clear c0 c1 c2 c3 c4 c7 qh1 qh2 qh3
                generalize p'.1 = W at O ⊢
                go_wp2
                go_meet
                exact ⟨by rw [HV.out], O⟩
              · have qh3 : decide (0 < who) = false := decide_eq_false h3
                have HV := Lib.hid (show bB = false by rw [HBB.out]; simp [qh1, h1, qh2, h2, qh3, h3])
                clear h1 h2 h3
                refine wp_quiet_later (by kernel_rfl) (by kernel_rfl) ?_
                repeat (first
                  | go_big_quiet_skip
                  | go_big_quiet_step (fail))
                refine wpQuiet_nil ?_
                intro _ hw
                obtain ⟨p', rfl⟩ := hw
                replace O := O.keeps p'.2
                clear c0 c1 c2 c3 c4 c7 qh1 qh2 qh3
                generalize p'.1 = W at O ⊢
                go_wp2
                go_meet
                exact ⟨by rw [HV.out], O⟩
            · have qh2 : (lv == who) = false := by simpa using h2
              have HV := Lib.hid (show bB = false by rw [HBB.out]; simp [qh1, h1, qh2, h2])
              clear h1 h2
              refine wp_quiet_later (by kernel_rfl) (by kernel_rfl) ?_
              repeat (first
                | go_big_quiet_skip
                | go_big_quiet_step (fail))
              refine wpQuiet_nil ?_
              intro _ hw
              obtain ⟨p', rfl⟩ := hw
              replace O := O.keeps p'.2
              clear c0 c1 c2 c3 c4 c7 qh1 qh2
              generalize p'.1 = W at O ⊢
              go_wp2
              go_meet
              exact ⟨by rw [HV.out], O⟩
          · have qh1 : (lo == 14) = false := by simpa using h1
            have HV := Lib.hid (show bB = false by rw [HBB.out]; simp [qh1, h1])
            clear h1
            refine wp_quiet_later (by kernel_rfl) (by kernel_rfl) ?_
            repeat (first
              | go_big_quiet_skip
              | go_big_quiet_step (fail))
            refine wpQuiet_nil ?_
            intro _ hw
            obtain ⟨p', rfl⟩ := hw
            replace O := O.keeps p'.2
            clear c0 c1 c2 c3 c4 c7 qh1
            generalize p'.1 = W at O ⊢
            go_wp2
            go_meet
            exact ⟨by rw [HV.out], O⟩
        case rest =>
          obtain ⟨rfl, O⟩ := hcut
          clear c0 c1 c2 c3 c4 c7
          go_upto_if 56 with (fail)
          go_cut [10] (fun s10 wx => s10 = .int .i64 (oI (bornN E who (k + 1))) ∧ Own w wx [] (LI S A c R d g7 a3 ⟨who, op, a, v, sh⟩))
          case first =>
            cases bB with
            | true =>
              have HN := Lib.hid (HBN.out.trans (if_pos (of_decide_eq_true HBB.out.symm)))
              go_wp2
              go_meet
              exact ⟨by rw [HN.out]; rfl, O⟩
            | false =>
              have HN := Lib.hid (HBN.out.trans (if_neg (of_decide_eq_false HBB.out.symm)))
              go_wp2
              go_meet
              exact ⟨by rw [HN.out], O⟩
          case rest =>
            obtain ⟨rfl, O⟩ := hcut
            clear HBN HBB
            have c0 : ∀ p : Later wc, p.1.cell? (ad.add (k * 5)) = some (.int .i64 lw) := fun p => HCK.out [] _ (O.keep.trans p.2 (by simp)) (by simp) 0 (by show 0 < 5; omega)
            have c1 : ∀ p : Later wc, p.1.cell? ⟨(ad.add (k * 5)).block, (ad.add (k * 5)).off + 1, none⟩ = some (.int .i64 lo) := fun p => HCK.out [] _ (O.keep.trans p.2 (by simp)) (by simp) 1 (by show 1 < 5; omega)
            have c2 : ∀ p : Later wc, p.1.cell? ⟨(ad.add (k * 5)).block, (ad.add (k * 5)).off + 2, none⟩ = some (.int .i64 la) := fun p => HCK.out [] _ (O.keep.trans p.2 (by simp)) (by simp) 2 (by show 2 < 5; omega)
            have c3 : ∀ p : Later wc, p.1.cell? ⟨(ad.add (k * 5)).block, (ad.add (k * 5)).off + 3, none⟩ = some (.int .i64 lv) := fun p => HCK.out [] _ (O.keep.trans p.2 (by simp)) (by simp) 3 (by show 3 < 5; omega)
            have c4 : ∀ p : Later wc, p.1.cell? ⟨(ad.add (k * 5)).block, (ad.add (k * 5)).off + 4, none⟩ = some (.bool ls) := fun p => HCK.out [] _ (O.keep.trans p.2 (by simp)) (by simp) 4 (by show 4 < 5; omega)
            have c7 : ∀ (p : Later wc) (i : Nat), p.1.cell? ⟨g7, i, none⟩ = #[Value.int .i64 who, .int .i64 op, .int .i64 a, .int .i64 v, .bool sh][i]? := Later.cell (O.get 0 rfl)
            go_upto_region 13 with (fail)
            go_cut [104] (fun s wx => s = .bool sm ∧ Own w wx [] (LI S A c R d g7 a3 ⟨who, op, a, v, sh⟩))
            case first =>
              have q1 : (op == 5) = false := by have h := HOP.out; simpa using (show ¬ op = 5 by omega)
              have q3 : (op == 6) = false := by have h := HOP.out; simpa using (show ¬ op = 6 by omega)
              have HV := Lib.hid (show sm = false by rw [HSM.out]; simp [q1, q3])
              refine wp_quiet_later (by kernel_rfl) (by kernel_rfl) ?_
              repeat (first
                | go_big_quiet_skip
                | go_big_quiet_step (fail))
              refine wpQuiet_nil ?_
              intro _ hw
              obtain ⟨p', rfl⟩ := hw
              replace O := O.keeps p'.2
              clear c0 c1 c2 c3 c4 c7 q1 q3
              generalize p'.1 = W at O ⊢
              go_wp2
              go_meet
              exact ⟨by rw [HV.out], O⟩
            case rest =>
              obtain ⟨rfl, O⟩ := hcut
              clear c0 c1 c2 c3 c4 c7 HSM
              cases sm with
              | true =>
                go_wp2
                go_roundg (j - (k + 1))
                case measure => (have := HG.out; omega)
                case rel => exact ⟨k + 1, by omega, rfl, by go_num, rfl, rfl, by rw [HPL.out]; go_num, O⟩
              | false =>
                go_wp2
                go_roundg (j - (k + 1))
                case measure => (have := HG.out; omega)
                case rel => exact ⟨k + 1, by omega, rfl, by go_num, rfl, rfl, by rw [HPL.out]; rfl, O⟩
    · obtain rfl : k = j := by omega
      clear HG g1
      obtain ⟨x9, hx9⟩ : ∃ x, x = oI (lastN E who k) := ⟨_, rfl⟩
      obtain ⟨x10, hx10⟩ : ∃ x, x = oI (bornN E who k) := ⟨_, rfl⟩
      obtain ⟨nk, hnk⟩ : ∃ x, x = (pickL (samE E ⟨who, op, a, v, sh⟩) k).length := ⟨_, rfl⟩
      rw [← hx9, ← hx10, ← hnk]
      have HNK := Lib.hid hnk
      have HX9 := Lib.hid hx9
      have HX10 := Lib.hid hx10
      have hnkk : nk ≤ k := by rw [hnk]; exact pickL_length _ _
      clear hx9 hx10 hnk
      go_upto_if 108 with (fail)
      go_cut [8] (fun s8 wx => Own w wx [] (LI S A c R d g7 a3 ⟨who, op, a, v, sh⟩) ∧ Mint w.heap.size wx s8 (ownL (lkN E k) who))
      case first =>
        have M := Mint.nil w.heap.size wr
        cases hl : lastN E who k with
        | some i =>
          have HO := Lib.hid (show ownL (lkN E k) who = [] ++ [x9] by rw [ownL_lk, hl, HX9.out, hl]; rfl)
          have q1 : (0 : Int) ≤ x9 := by rw [HX9.out, hl]; exact (lastN_lt hl).1
          clear hl
          go_wp2_with (first
            | (refine own_lit1 111 (x9) O rfl rfl rfl rfl ?_; clear O; intro W gl O K1 _; replace M := M.keeps K1 (by simp); clear K1; simp only [Act.put, List.setIfInBounds_toArray, List.set_cons_zero, List.set_cons_succ])
            | (at_builtin; refine own_app w.heap.size _ ([]) (x9) gl (.tmp 109) (.tmp 111) (O.drop_ 1) M rfl rfl rfl rfl ((O.get 0 rfl).cell 0) rfl (by simp [LI]) (by simp) ?_; clear O M; intro v1 W O M; simp only [List.drop] at O; simp only [Act.put, List.setIfInBounds_toArray, List.set_cons_zero, List.set_cons_succ]))
          go_meet
          exact ⟨O, by rw [HO.out]; exact M⟩
        | none =>
          have q1 : ¬ (0 : Int) ≤ x9 := by rw [HX9.out, hl]; decide
          cases hb : bornN E who k with
          | some i =>
            have HO := Lib.hid (show ownL (lkN E k) who = [] ++ [x10] by rw [ownL_lk, hl, hb, HX10.out, hb]; rfl)
            have q2 : (0 : Int) ≤ x10 := by rw [HX10.out, hb]; exact (bornN_lt hb).1
            clear hl hb
            go_wp2_with (first
              | (refine own_lit1 117 (x10) O rfl rfl rfl rfl ?_; clear O; intro W gl O K1 _; replace M := M.keeps K1 (by simp); clear K1; simp only [Act.put, List.setIfInBounds_toArray, List.set_cons_zero, List.set_cons_succ])
              | (at_builtin; refine own_app w.heap.size _ ([]) (x10) gl (.tmp 115) (.tmp 117) (O.drop_ 1) M rfl rfl rfl rfl ((O.get 0 rfl).cell 0) rfl (by simp [LI]) (by simp) ?_; clear O M; intro v1 W O M; simp only [List.drop] at O; simp only [Act.put, List.setIfInBounds_toArray, List.set_cons_zero, List.set_cons_succ]))
            go_meet
            exact ⟨O, by rw [HO.out]; exact M⟩
          | none =>
            have HO := Lib.hid (show ownL (lkN E k) who = [] by rw [ownL_lk, hl, hb])
            have q2 : ¬ (0 : Int) ≤ x10 := by rw [HX10.out, hb]; decide
            clear hl hb
            go_wp2
            go_meet
            exact ⟨O, by rw [HO.out]; exact M⟩
      case rest =>
        obtain ⟨O, M⟩ := hcut
        have HOL := Lib.hid (show (ownL (lkN E k) who).length ≤ 1 by rw [ownL_lk]; split <;> (try split) <;> simp)
        clear HX9 HX10
        by_cases o6 : op = 6
        · exfalso
          have := HOP.out
          omega
        · by_cases o5 : op = 5
          · exfalso
            have := HOP.out
            omega
          · by_cases o8 : op = 8
            · exfalso
              have := HOP.out
              omega
            · by_cases o11 : op = 11
              · subst o11
                have c7 : ∀ i : Nat, (wc).cell? ⟨g7, i, none⟩ = #[Value.int .i64 who, .int .i64 11, .int .i64 a, .int .i64 v, .bool sh][i]? := (O.get 0 rfl).cell
                go_wp2
                clear c7
                go_loopg [8, 17] k (fun g s8 s17 wr => ∃ m, m ≤ k ∧ g = k - m ∧ s17 = .int .i64 (m : Int) ∧ Own w wr [] (LI S A c R d g7 a3 ⟨who, 11, a, v, sh⟩) ∧ Mint w.heap.size wr s8 ((ownL (lkN E k) who) ++ natL (pickL (isAdd E a) m)))
                case atStart => exact ⟨0, by omega, by omega, rfl, O, by rw [show natL (pickL (isAdd E a) 0) = [] from rfl, List.append_nil]; exact M⟩
                case round =>
                  obtain ⟨m, hm, hgk, rfl, O, M⟩ := hrel
                  have HG := Lib.hid hgk
                  clear hgk
                  by_cases hlt : m < k
                  · have g2 : ((m : Int)) < k := by omega
                    have g3 : ((m : Int)) < n := by omega
                    have g4 : (0 : Int) ≤ m := by omega
                    obtain ⟨ad', e', hc⟩ := EvsAt.row (u := w) HE.out (show m < n by omega)
                    cases e'
                    obtain ⟨f, hf⟩ : ∃ f, f = E m := ⟨_, rfl⟩
                    rw [← hf] at hc
                    have HCK := Lib.hid hc
                    have HFM := Lib.hid hf
                    clear hf hc
                    obtain ⟨lw, lo, la, lv, ls⟩ := f
                    have c1 : ∀ p : Later wr, p.1.cell? ⟨(ad.add (m * 5)).block, (ad.add (m * 5)).off + 1, none⟩ = some (.int .i64 lo) := fun p => HCK.out [] _ (O.keep.trans p.2 (by simp)) (by simp) 1 (by show 1 < 5; omega)
                    have c2 : ∀ p : Later wr, p.1.cell? ⟨(ad.add (m * 5)).block, (ad.add (m * 5)).off + 2, none⟩ = some (.int .i64 la) := fun p => HCK.out [] _ (O.keep.trans p.2 (by simp)) (by simp) 2 (by show 2 < 5; omega)
                    have c7 : ∀ (p : Later wr) (i : Nat), p.1.cell? ⟨g7, i, none⟩ = #[Value.int .i64 who, .int .i64 11, .int .i64 a, .int .i64 v, .bool sh][i]? := Later.cell (O.get 0 rfl)
                    by_cases h1 : lo = 10
                    · have q1 : (lo == 10) = true := by simpa using h1
                      by_cases h2 : la = a
                      · have q2 : (la == a) = true := by simpa using h2
                        have HY := Lib.hid (And.intro h1 h2)
                        clear h1 h2
                        go_wp2
                        refine wp_quiet_later (by kernel_rfl) (by kernel_rfl) ?_
                        repeat (first
                          | go_big_quiet_skip
                          | go_big_quiet_step (fail))
                        refine wpQuiet_nil ?_
                        intro _ hw
                        obtain ⟨p', rfl⟩ := hw
                        replace O := O.keeps p'.2
                        replace M := M.keeps p'.2 (by simp)
                        clear c1 c2 c7
                        generalize p'.1 = W at O M ⊢
                        clear q1 q2
                        have HFL := Lib.hid (pickL_length (isAdd E a) m)
                        go_wp2_with (first
                          | (refine own_lit1 274 ((m : Int)) O rfl rfl rfl rfl ?_; clear O; intro W gl O K1 _; replace M := M.keeps K1 (by simp); clear K1; simp only [Act.put, List.setIfInBounds_toArray, List.set_cons_zero, List.set_cons_succ])
                          | (at_builtin; refine own_app w.heap.size _ ((ownL (lkN E k) who) ++ natL (pickL (isAdd E a) m)) ((m : Int)) gl (.tmp 272) (.tmp 274) (O.drop_ 1) M rfl rfl rfl rfl ((O.get 0 rfl).cell 0) rfl (by simp [LI]) (by have := HOL.out; have := HFL.out; rw [List.length_append, natL_length]; omega) ?_; clear O M; intro v1 W O M; simp only [List.drop] at O; simp only [Act.put, List.setIfInBounds_toArray, List.set_cons_zero, List.set_cons_succ]))
                        go_roundg (k - (m + 1))
                        case measure => (have := HG.out; omega)
                        case rel => exact ⟨m + 1, by omega, rfl, by go_num, O, (by rw [pickL_succ, if_pos (by simp [isAdd]; rw [← HFM.out]; exact HY.out), natL_append, ← List.append_assoc]; exact M)⟩
                      · have q2 : (la == a) = false := by simpa using h2
                        have HN := Lib.hid (show ¬ (lo = 10 ∧ la = a) from fun q => h2 q.2)
                        clear h1 h2
                        go_wp2
                        refine wp_quiet_later (by kernel_rfl) (by kernel_rfl) ?_
                        repeat (first
                          | go_big_quiet_skip
                          | go_big_quiet_step (fail))
                        refine wpQuiet_nil ?_
                        intro _ hw
                        obtain ⟨p', rfl⟩ := hw
                        replace O := O.keeps p'.2
                        replace M := M.keeps p'.2 (by simp)
                        clear c1 c2 c7
                        generalize p'.1 = W at O M ⊢
                        clear q1
                        go_wp2
                        go_roundg (k - (m + 1))
                        case measure => (have := HG.out; omega)
                        case rel => exact ⟨m + 1, by omega, rfl, by go_num, O, (by rw [pickL_succ, if_neg (by simp [isAdd]; rw [← HFM.out]; intro q1 q2; exact absurd ⟨q1, q2⟩ HN.out), List.append_nil]; exact M)⟩
                    · have q1 : (lo == 10) = false := by simpa using h1
                      have HN := Lib.hid (show ¬ (lo = 10 ∧ la = a) from fun q => h1 q.1)
                      clear h1
                      go_wp2
                      refine wp_quiet_later (by kernel_rfl) (by kernel_rfl) ?_
                      repeat (first
                        | go_big_quiet_skip
                        | go_big_quiet_step (fail))
                      refine wpQuiet_nil ?_
                      intro _ hw
                      obtain ⟨p', rfl⟩ := hw
                      replace O := O.keeps p'.2
                      replace M := M.keeps p'.2 (by simp)
                      clear c1 c2 c7
                      generalize p'.1 = W at O M ⊢
                      clear q1
                      go_wp2
                      go_roundg (k - (m + 1))
                      case measure => (have := HG.out; omega)
                      case rel => exact ⟨m + 1, by omega, rfl, by go_num, O, (by rw [pickL_succ, if_neg (by simp [isAdd]; rw [← HFM.out]; intro q1 q2; exact absurd ⟨q1, q2⟩ HN.out), List.append_nil]; exact M)⟩
                  · obtain rfl : k = m := by omega
                    have HRF := Lib.hid (show refM E (rmS S) k ⟨who, 11, a, v, sh⟩ = natL (pickL (isAdd E a) k) from rfl)
                    have HFL := Lib.hid (pickL_length (isAdd E a) k)
                    have HXL := Lib.hid (show ((ownL (lkN E k) who) ++ natL (pickL (isAdd E a) k)).length ≤ 1000000 by have := HOL.out; have := HFL.out; rw [List.length_append, natL_length]; omega)
                    go_wp2_with (go_at_call 98; refine (rising_any _ ((ownL (lkN E k) who) ++ natL (pickL (isAdd E a) k)) HXL.out M.list).mono ?_; rintro e W ⟨⟨r, ys, rfl, MR, HR⟩, K⟩)
                    go_ret
                    refine ⟨⟨_, rfl, mint_low (b := w.heap.size) ?_ O.keep.size⟩, O.keep.trans K (by simp)⟩
                    have hfin := into_rose (E := E) (rm := rmS S) (j := k) (ys := ys) (by rw [← HEJ.out]; rw [show refM E (rmS S) k _ = _ from HRF.out]; exact HR) (fun h6 hs => ok_take HOK.out h6 hs) (fun h6 hs => ok_shut HOK.out h6 hs)
                    rw [← hfin]
                    exact MR
              · exfalso
                have := HOP.out
                omega
end
end Go.Proofs.Ytakmcpadkanggaa
namespace Go.Proofs.Ytakmcpadkanggaa
open Go.RowKit Go.Maps Go.Deep
section
variable {w : World} {S : Sys} {A : Option Addr} {c : Nat} {R : Option Addr} {d n : Nat} {E : Nat → Ev} {B : Option Addr} {cb : Nat}
theorem into_any (hS : SysIn w S A c R d) (hE : EvsAt w B n E) (hn : n ≤ 40000) (hrm : ∀ q, q < S.nr → 1 ≤ S.rm q ∧ S.rm q ≤ 1000000) (j : Nat) (hj : j < n) (hok : okE S (stN E j) (E j) = true) : Calls Try.prog 71 #[.agg (sysV S A c R d), .slice B n cb, .int .i64 (j : Int)] w (IntoPost w S E j) := by
  by_cases h6 : (E j).op = 6
  · exact into_6 hS hE hn hrm j hj hok h6
  · by_cases h5 : (E j).op = 5
    · exact into_5 hS hE hn hrm j hj hok h5
    · by_cases h8 : (E j).op = 8
      · exact into_8 hS hE hn hrm j hj hok h8
      · by_cases h11 : (E j).op = 11
        · exact into_11 hS hE hn hrm j hj hok h11
        · exact into_o hS hE hn hrm j hj hok ⟨h6, h5, h8, h11⟩
end
end Go.Proofs.Ytakmcpadkanggaa
namespace Go.Proofs.Ytakmcpadkanggaa
open Go.RowKit Go.Maps Go.Deep
section
variable {ops : Array Oper} {rest : List Oper} {o : Oper} {a : Act} {w W : World} {Q : Exit → Act → World → Prop} {S : List Nat} {L : List Ent} {g t : Nat} {ty : TypeId} {cs cs' : Array Value}
theorem own_storeK (k i : Nat) (v : Value) (y z : Operand) (O : Own w W S L) (hgd : o.guard = none) (hdst : o.dst = none) (ho : o.op = .store ty y z) (hy : a.eval y = .pointer (some ⟨g, i, none⟩)) (hz : a.eval z = v) (hk : L[k]? = some (g, t, cs))
    (hi : i < cs.size) (hx : v.cells = #[v]) (h1 : v.oneCell' = true) (hs : (Try.prog.info? ty).map (·.size) = some 1) (he : cs.setIfInBounds i v = cs')
    (h : ∀ u, Own w u S (L.set k (g, t, cs')) → Keeps W u [g] → wpList Try.prog ops Q rest a u) : wpList Try.prog ops Q (o :: rest) a W :=
  wpList_store_blk g i t cs v hgd hdst ho hy hz (O.get k hk) hi hx h1 hs fun u kp b => h u (O.set k hk kp (by rw [← he]; exact b)) kp
end
end Go.Proofs.Ytakmcpadkanggaa
namespace Go.Proofs.Ytakmcpadkanggaa
open Go.RowKit Go.Maps Go.Deep
theorem arrI_congr {n : Nat} {f g : Int → Int} (h : ∀ i : Nat, i < n → f i = g i) : arrI n f = arrI n g := by
  apply Array.ext_getElem?
  intro i
  by_cases hi : i < n
  · rw [arrI_get _ _ _ hi, arrI_get _ _ _ hi, h i hi]
  · simp [arrI, hi]
theorem mx_snoc {E : Nat → Ev} {rm : Int → Int} (l : List Int) (x : Int) (w : Int) : mxC E rm (l ++ [x]) w = max (mxC E rm l w) (clk E rm x w) := by
  rw [mx_split, mx_one]
/-- What is laid in of the first q of the events from which edges lead. -/
theorem acc_succ {E : Nat → Ev} {rm : Int → Int} {r : Nat} {xs : List Int} {q : Nat} (hq : q < xs.length) : arrI r (jmax (mxC E rm (xs.take q)) (rowOf r (clk E rm (xs.getD q 0))) r) = arrI r (mxC E rm (xs.take (q + 1))) :=
  arrI_congr fun i hi => by
    unfold jmax
    rw [if_pos (by omega), Int.toNat_natCast, rowOf_get _ _ _ hi, List.take_succ_eq_append_getElem hq, mx_snoc, List.getD_eq_getElem?_getD, List.getElem?_eq_getElem hq]
    rfl
section
variable {w : World} {S : Sys} {A : Option Addr} {c : Nat} {R : Option Addr} {d n : Nat} {E : Nat → Ev} {B : Option Addr} {cb : Nat}
theorem grid_rowP {base r k : Nat} {W : World} {v : Value} {nb cp : Nat → Nat} {F : Nat → Int → Int} {ad : Addr} {cv : Nat} (G : GridAt base W v k r nb cp F) (hv : v = .slice (some ad) k cv) {i : Nat} (hi : i < k) : W.cell? (ad.add i) = some (.slice (some ⟨nb i, 0, none⟩) r (cp i)) :=
  (gr_cell G.row hv (gridL_get hi)).2
theorem grid_atP {base r m : Nat} {W : World} {v : Value} {nb cp : Nat → Nat} {F : Nat → Int → Int} (G : GridAt base W v m r nb cp F) {i k : Nat} (hi : i < m) (hk : k < r) : W.cell? ⟨nb i, k, none⟩ = some (.int .i64 (F i (k : Int))) := by
  obtain ⟨_, _, _, cu, hB, _, hc⟩ := G.cl i hi
  exact (hB.cell k).trans (hc.2 k hk)
set_option maxRecDepth 100000 in
theorem refclocks_bad (hS : SysIn w S A c R d) (hE : EvsAt w B n E) (h : ¬ (thr S E n).2.2 = 0) : Calls Try.prog 40 #[.agg (sysV S A c R d), .slice B n cb] w (ClkPost S E n w) := by
  have O := Own.start w []
  have HT := Lib.hid (fun u (k : Keeps w u []) => show Calls Try.prog 29 #[.agg (sysV S A c R d), .slice B n cb] u fun e w' => e = .returned (.tuple #[.int .i64 (thr S E n).2.1, .int .i64 (thr S E n).1, .int .i64 (thr S E n).2.2]) ∧ Keeps u w' [] from rvalid_any (hS.kept k) (hE.kept k))
  have HF := Lib.hid (show clkE S E n = (thr S E n).2.2 by unfold clkE; rw [if_neg h])
  unfold ClkPost
  rw [HF.out]
  generalize thr S E n = x at *
  obtain ⟨x0, x1, x2⟩ := x
  simp only at *
  clear hS hE HF
  go_enter Try.func40, Try.ntmps40
  go_wp2_with (first
    | go_big_skip
    | (refine own_box 2 (sysV S A c R d) O rfl rfl rfl rfl ?_; clear O; intro W b2 O; simp only [Act.put, List.setIfInBounds_toArray, List.set_cons_zero, List.set_cons_succ])
    | (refine own_load 16 0 O rfl rfl rfl rfl rfl Try.underlying27 rfl (by kernel_rfl) ?_; simp only [Act.put, List.setIfInBounds_toArray, List.set_cons_zero, List.set_cons_succ])
    | (go_at_call 29; refine (HT.out _ O.keep).mono ?_; rintro e W ⟨rfl, K⟩; replace O := O.keeps K; clear K))
  go_returns
  exact ⟨⟨_, rfl, .inr ⟨h, rfl⟩⟩, O.keep⟩
set_option maxRecDepth 100000 in
theorem refclocks_long (hS : SysIn w S A c R d) (hE : EvsAt w B n E) (h : (thr S E n).2.2 = 0) (hl : 1048576 < n * (stN E n).r.toNat) : Calls Try.prog 40 #[.agg (sysV S A c R d), .slice B n cb] w (ClkPost S E n w) := by
  have O := Own.start w []
  obtain ⟨hv, hn, hok⟩ := thr_zero h
  have hl0 := stN_le E n
  obtain ⟨r, hr⟩ : ∃ r : Nat, (stN E n).r = (r : Int) := ⟨(stN E n).r.toNat, by omega⟩
  have hr6 : r ≤ 1000000 := by omega
  have HT := Lib.hid (fun u (k : Keeps w u []) => show Calls Try.prog 29 #[.agg (sysV S A c R d), .slice B n cb] u fun e w' => e = .returned (.tuple #[.int .i64 (thr S E n).2.1, .int .i64 (r : Int), .int .i64 0]) ∧ Keeps u w' [] from by
    have hz := rvalid_any (cb := cb) (hS.kept k) (hE.kept k)
    rw [thr_r h, hr, h] at hz
    exact hz)
  generalize (thr S E n).2.1 = x1 at HT
  rw [hr, Int.toNat_natCast] at hl
  obtain ⟨p, hp⟩ : ∃ p, p = n * r := ⟨_, rfl⟩
  rw [← hp] at hl
  have hp4 : p ≤ 40000000000 := by rw [hp]; exact Nat.mul_le_mul hn hr6
  have hmul : (n : Int) * (r : Int) = (p : Int) := by rw [hp]; push_cast; rfl
  have HF := Lib.hid (show clkE S E n = 2 by unfold clkE; rw [if_pos h, hr, Int.toNat_natCast, ← hp, if_pos hl])
  have q1 : decide ((1048576 : Int) < (p : Int)) = true := decide_eq_true (by omega)
  have q2 : (1048576 : Int) < (p : Int) := by omega
  unfold ClkPost
  rw [HF.out]
  clear hS hE HF h hl hp
  go_enter Try.func40, Try.ntmps40
  go_wp2_with (first
    | go_big_skip
    | (refine own_box 2 (sysV S A c R d) O rfl rfl rfl rfl ?_; clear O; intro W b2 O; simp only [Act.put, List.setIfInBounds_toArray, List.set_cons_zero, List.set_cons_succ])
    | (refine own_load 16 0 O rfl rfl rfl rfl rfl Try.underlying27 rfl (by kernel_rfl) ?_; simp only [Act.put, List.setIfInBounds_toArray, List.set_cons_zero, List.set_cons_succ])
    | (go_at_call 29; refine (HT.out _ O.keep).mono ?_; rintro e W ⟨rfl, K⟩; replace O := O.keeps K; clear K))
  go_returns
  exact ⟨⟨_, rfl, .inr ⟨by decide, rfl⟩⟩, O.keep⟩
set_option maxRecDepth 100000 in
set_option maxHeartbeats 4000000 in
theorem refclocks_good (hS : SysIn w S A c R d) (hE : EvsAt w B n E) (h : (thr S E n).2.2 = 0) (hl : ¬ 1048576 < n * (stN E n).r.toNat) : Calls Try.prog 40 #[.agg (sysV S A c R d), .slice B n cb] w (ClkPost S E n w) := by
  have O := Own.start w []
  obtain ⟨hv, hn, hok⟩ := thr_zero h
  have hl0 := stN_le E n
  obtain ⟨r, hr⟩ : ∃ r : Nat, (stN E n).r = (r : Int) := ⟨(stN E n).r.toNat, by omega⟩
  have hr6 : r ≤ 1000000 := by omega
  have HT := Lib.hid (fun u (k : Keeps w u []) => show Calls Try.prog 29 #[.agg (sysV S A c R d), .slice B n cb] u fun e w' => e = .returned (.tuple #[.int .i64 (thr S E n).2.1, .int .i64 (r : Int), .int .i64 0]) ∧ Keeps u w' [] from by
    have hz := rvalid_any (cb := cb) (hS.kept k) (hE.kept k)
    rw [thr_r h, hr, h] at hz
    exact hz)
  generalize (thr S E n).2.1 = x1 at HT
  rw [hr, Int.toNat_natCast] at hl
  obtain ⟨p, hp⟩ : ∃ p, p = n * r := ⟨_, rfl⟩
  rw [← hp] at hl
  have hp4 : p ≤ 40000000000 := by rw [hp]; exact Nat.mul_le_mul hn hr6
  have hmul : (n : Int) * (r : Int) = (p : Int) := by rw [hp]; push_cast; rfl
  have HE := Lib.hid hE
  have HI := Lib.hid (fun u (k : Keeps w u []) (j : Nat) (hj : j < n) => into_any (cb := cb) (hS.kept k) (hE.kept k) hn (val_rooms hv) j hj (hok j hj))
  have HLEN := Lib.hid (fun j (hj : j < n) => intoL_length (rm := rmS S) (hok j hj))
  have HLT := Lib.hid (fun j (hj : j < n) x (hx : x ∈ intoL E (rmS S) j) => intoL_lt (rm := rmS S) (hok j hj) hx)
  have HWI := Lib.hid (fun j (hj : j < n) => (show ∃ wi : Nat, (E j).who = (wi : Int) ∧ wi < r from ⟨(E j).who.toNat, by have := (ok_head (hok j hj)).1; omega, by
    have h1 := ok_head (hok j hj)
    have h2 := stN_r_mono E (show j ≤ n by omega)
    omega⟩))
  have HUPS := Lib.hid (fun j (hj : j < n) => (show arrI r (updI (mxC E (rmS S) (intoL E (rmS S) j)) (E j).who (mxC E (rmS S) (intoL E (rmS S) j) (E j).who + 1)) = arrI r (clk E (rmS S) (j : Int)) by rw [clk_up (hok j hj)]))
  have HBND := Lib.hid (fun j (hj : j < n) => (show 0 ≤ mxC E (rmS S) (intoL E (rmS S) j) (E j).who ∧ mxC E (rmS S) (intoL E (rmS S) j) (E j).who ≤ 50000 from ⟨maxL_nonneg _, by
    have h1 := congrFun (clk_up (rm := rmS S) (hok j hj)) (E j).who
    rw [updI_same] at h1
    have h2 := clk_le (E := E) (rm := rmS S) (E j).who j
    omega⟩))
  have HF := Lib.hid (show clkE S E n = 0 by unfold clkE; rw [if_pos h, hr, Int.toNat_natCast, ← hp, if_neg hl])
  have q1 : decide ((1048576 : Int) < (p : Int)) = false := decide_eq_false (by omega)
  have q2 : ¬ (1048576 : Int) < (p : Int) := by omega
  have HR := Lib.hid (show (stN E n).r.toNat = r by omega)
  unfold ClkPost
  rw [HF.out, HR.out]
  clear hS hE HF h hl hp hok hv HR hr
  go_enter Try.func40, Try.ntmps40
  go_wp2_with (first
    | go_big_skip
    | (refine own_box 2 (sysV S A c R d) O rfl rfl rfl rfl ?_; clear O; intro W a2 O; simp only [Act.put, List.setIfInBounds_toArray, List.set_cons_zero, List.set_cons_succ])
    | (refine own_load 16 0 O rfl rfl rfl rfl rfl Try.underlying27 rfl (by kernel_rfl) ?_; simp only [Act.put, List.setIfInBounds_toArray, List.set_cons_zero, List.set_cons_succ])
    | (go_at_call 29; refine (HT.out _ O.keep).mono ?_; rintro e W ⟨rfl, K⟩; replace O := O.keeps K; clear K))
  clear HT q1 q2
  go_loopg [9, 10] n (fun g sout sj wr => ∃ (k : Nat) (nb : Nat → Nat), k ≤ n ∧ g = n - k ∧ sj = .int .i64 (k : Int) ∧ Own w wr [] [(a2, 27, sysV S A c R d)] ∧ GridAt w.heap.size wr sout k r nb (fun _ => r) (fun i => clk E (rmS S) (i : Int)))
  case atStart => exact ⟨0, fun _ => 0, by omega, by omega, rfl, O, GridAt.nil _ _ _ _ _ _⟩
  case round =>
    obtain ⟨k, nb, hk, hgk, rfl, O, G⟩ := hrel
    have HG := Lib.hid hgk
    clear hgk
    obtain ⟨Ao, co, rfl, hnz, _⟩ := gr_shape G.row
    by_cases hlt : k < n
    · have g1 : ((k : Int)) < n := by omega
      have gk0 : (0 : Int) ≤ k := by omega
      have hws := O.keep.size
      have HXL := Lib.hid (HLEN.out k hlt)
      have HXT := Lib.hid (HLT.out k hlt)
      have HLTN := Lib.hid hlt
      go_wp2_with (first
        | (refine own_makeIK 37 r O rfl rfl rfl rfl hr6 ?_; clear O; intro W gc O K hb; have HGC := Lib.hid (fun i (hi : i < k) => (show nb i ≠ gc from fun e => by have := G.lt hi; omega)); replace G := G.new K; clear K hb; simp only [Act.put, List.setIfInBounds_toArray, List.set_cons_zero, List.set_cons_succ])
        | (refine own_load 38 1 O rfl rfl rfl rfl rfl Try.underlying27 rfl (by kernel_rfl) ?_; simp only [Act.put, List.setIfInBounds_toArray, List.set_cons_zero, List.set_cons_succ])
        | (go_at_call 71; refine (HI.out _ O.keep k hlt).mono ?_; rintro e W ⟨⟨v, rfl, MI⟩, K⟩; have HGM := Lib.hid (fun g (hg : v.ownBlock = some g) (e : g = gc) => (by have h1 := (MI.own hg).1; have h2 := (O.get 0 rfl).lt; omega : False)); replace MI := mint_low (b := w.heap.size) MI O.keep.size; replace O := O.keeps K; replace G := G.new K; clear K))
      obtain ⟨xs, hxs⟩ : ∃ xs, xs = intoL E (rmS S) k := ⟨_, rfl⟩
      rw [← hxs] at MI HXL HXT
      obtain ⟨Av, cv, hvv, hx⟩ := MI.list
      subst hvv
      obtain ⟨m, hm⟩ : ∃ m, m = xs.length := ⟨_, rfl⟩
      rw [← hm] at MI HGM
      rw [← hm]
      have HM := Lib.hid hm
      have HXS := Lib.hid hxs
      have hm6 : m ≤ 1000000 := by have := HXL.out; omega
      clear hm hxs hx
      rw [show arrI r (fun _ => 0) = arrI r (mxC E (rmS S) (xs.take 0)) from arrI_congr fun i hi => rfl] at O
      go_loopg [13] m (fun g sk wr => ∃ q, q ≤ m ∧ g = m - q ∧ sk = .int .i64 (q : Int) ∧ Own w wr [] [(gc, 3, arrI r (mxC E (rmS S) (xs.take q))), (a2, 27, sysV S A c R d)] ∧ Mint w.heap.size wr (.slice Av m cv) xs ∧ GridAt w.heap.size wr (.slice Ao k co) k r nb (fun _ => r) (fun i => clk E (rmS S) (i : Int)) ∧ ∀ g, (Value.slice Av m cv).ownBlock = some g → g ≠ gc)
      case atStart => exact ⟨0, by omega, by omega, rfl, O, MI, G, fun g hg e => HGM.out g hg e⟩
      case round =>
        clear O MI G
        obtain ⟨q, hq, hgq, rfl, O, MI, G, hne⟩ := hrel
        have HG2 := Lib.hid hgq
        have HNE := Lib.hid hne
        clear hgq hne
        by_cases hqt : q < m
        · have g2 : ((q : Int)) < m := by omega
          have g3 : (0 : Int) ≤ q := by omega
          have HQ := Lib.hid (show q < xs.length by rw [← HM.out]; exact hqt)
          obtain ⟨A', c', e', hx⟩ := MI.list
          obtain ⟨ad, e1, _, hc⟩ := hx (by have := HQ.out; omega)
          have e2 : Av = some ad := by rw [← e1]; injection e'
          subst e2
          clear e1 e' hx hc
          have hy := HXT.out (xs.getD q 0) (by rw [List.getD_eq_getElem?_getD, List.getElem?_eq_getElem HQ.out]; exact List.getElem_mem _)
          obtain ⟨x, hx⟩ : ∃ x : Nat, xs.getD q 0 = (x : Int) := ⟨(xs.getD q 0).toNat, by omega⟩
          have hxk : x < k := by omega
          have HX := Lib.hid hx
          have HACC := Lib.hid (acc_succ (E := E) (rm := rmS S) (r := r) HQ.out)
          obtain ⟨ao, rfl⟩ : ∃ ao, Ao = some ao := Option.ne_none_iff_exists'.1 (fun e => by have := (hnz e).1; omega)
          have gx1 : ((x : Int)) < k := by omega
          have gx0 : (0 : Int) ≤ x := by omega
          clear hy hx
          obtain ⟨f, hf⟩ : ∃ f, f = mxC E (rmS S) (xs.take q) := ⟨_, rfl⟩
          rw [← hf] at O HACC
          rw [HX.out] at HACC
          clear hf
          rw [← jmax_zero f (rowOf r (clk E (rmS S) (x : Int)))] at O
          go_wp2
          go_loopg [14] r (fun g sw wr => ∃ y, y ≤ r ∧ g = r - y ∧ sw = .int .i64 (y : Int) ∧ Own w wr [] [(gc, 3, arrI r (jmax f (rowOf r (clk E (rmS S) (x : Int))) y)), (a2, 27, sysV S A c R d)] ∧ Mint w.heap.size wr (.slice (some ad) m cv) xs ∧ GridAt w.heap.size wr (.slice (some ao) k co) k r nb (fun _ => r) (fun i => clk E (rmS S) (i : Int)))
          case atStart => exact ⟨0, by omega, by omega, rfl, O, MI, G⟩
          case round =>
            clear O MI G
            obtain ⟨y, hy, hgy, rfl, O, MI, G⟩ := hrel
            have HG3 := Lib.hid hgy
            clear hgy
            by_cases hyt : y < r
            · have g4 : ((y : Int)) < r := by omega
              have g5 : (0 : Int) ≤ y := by omega
              have HOB := Lib.hid (O.get 0 rfl)
              have HMI := Lib.hid MI
              have HGR := Lib.hid G
              obtain ⟨u1, hu1⟩ : ∃ u1, u1 = jmax f (rowOf r (clk E (rmS S) (x : Int))) y (y : Int) := ⟨_, rfl⟩
              obtain ⟨u2, hu2⟩ : ∃ u2, u2 = (rowOf r (clk E (rmS S) (x : Int))).getD y 0 := ⟨_, rfl⟩
              have HJ := Lib.hid (jmax_succ f (rowOf r (clk E (rmS S) (x : Int))) y)
              rw [← hu1, ← hu2] at HJ
              have c1 : ∀ p : Later wr, p.1.cell? ⟨gc, y, none⟩ = some (.int .i64 u1) := fun p => by rw [hu1]; exact ((HOB.out.keeps p.2 (by simp)).cell y).trans (arrI_get _ _ _ hyt)
              have c2 : ∀ p : Later wr, p.1.cell? (ad.add q) = some (.int .i64 (x : Int)) := fun p => by
                obtain ⟨A', c', e', hx⟩ := (HMI.out.keeps p.2 (by simp)).list
                obtain ⟨ad', e1, _, hc⟩ := hx (by have := HQ.out; omega)
                have e2 : ad = ad' := by rw [e1] at e'; injection e' with e' _ _; injection e'
                subst e2
                have := hc q HQ.out
                rwa [HX.out] at this
              have c3 : ∀ p : Later wr, p.1.cell? (ao.add x) = some (.slice (some ⟨nb x, 0, none⟩) r r) := fun p => grid_rowP (HGR.out.new p.2) rfl hxk
              have c4 : ∀ p : Later wr, p.1.cell? ⟨nb x, y, none⟩ = some (.int .i64 u2) := fun p => by rw [hu2, rowOf_get _ _ _ hyt]; exact grid_atP (HGR.out.new p.2) hxk hyt
              clear MI G hu1 hu2
              go_wp2
              refine wp_quiet_tail_later 18 (by kernel_rfl) (by kernel_rfl) ?_
              simp only [List.take, List.drop]
              repeat (first
                | go_big_quiet_skip
                | go_big_quiet_step (fail))
              refine wpQuiet_nil ?_
              intro _ hw
              obtain ⟨p', rfl⟩ := hw
              replace O := O.keeps p'.2
              replace HMI := Lib.hid (HMI.out.keeps p'.2 (by simp))
              replace HGR := Lib.hid (HGR.out.new p'.2)
              clear c1 c2 c3 c4 HOB
              generalize p'.1 = W3 at O HMI HGR ⊢
              refine own_storeK 0 y (.int .i64 (max u1 u2)) (.tmp 70) (.tmp 69) O rfl rfl rfl rfl rfl rfl (by simp only [arrI_size]; exact hyt) rfl rfl (by kernel_rfl) (arrI_set _ _ _ _) ?_
              have hB := O.get 0 rfl
              clear O
              intro W4 O K
              have MI := HMI.out.keeps K (fun g hg hm => HNE.out g hg (by simpa using hm))
              have G := HGR.out.keeps K (fun g hg hm => gr_ne HGR.out.row hB (by decide) (by rw [hg]; congr 1; exact List.mem_singleton.1 hm)) (fun i hi hm => HGC.out i hi (List.mem_singleton.1 hm))
              clear K hB HMI HGR
              simp only [List.set_cons_zero] at O
              rw [HJ.out] at O
              go_wp2
              go_roundg (r - (y + 1))
              case measure => (have := HG3.out; omega)
              case rel => exact ⟨y + 1, by omega, rfl, by go_num, O, MI, G⟩
            · obtain rfl : r = y := by omega
              clear hyt
              rw [HACC.out] at O
              go_wp2
              go_roundg (m - (q + 1))
              case measure => (have := HG2.out; omega)
              case rel => exact ⟨q + 1, by omega, rfl, by go_num, O, MI, G, HNE.out⟩
        · obtain rfl : m = q := by omega
          clear hqt
          have hta : xs.take m = intoL E (rmS S) k := by rw [HM.out, List.take_length]; exact HXS.out
          rw [hta] at O
          clear hta MI
          obtain ⟨wi, hwi, hwr⟩ := HWI.out k hlt
          have HWE := Lib.hid hwi
          have HUP := Lib.hid (HUPS.out k hlt)
          have HBD := Lib.hid (HBND.out k hlt)
          rw [hwi] at HUP HBD
          obtain ⟨u1, hu1⟩ : ∃ u1, u1 = mxC E (rmS S) (intoL E (rmS S) k) (wi : Int) := ⟨_, rfl⟩
          rw [← hu1] at HUP HBD
          have hu0 : 0 ≤ u1 := by have := HBD.out; omega
          have hu9 : u1 ≤ 1000000 := by have := HBD.out; omega
          have HOB := Lib.hid (O.get 0 rfl)
          obtain ⟨adE, rfl, _⟩ := HE.out (by omega)
          have g6 : ((wi : Int)) < r := by omega
          have g7 : (0 : Int) ≤ wi := by omega
          have c1 : ∀ p : Later wr, p.1.cell? ⟨gc, wi, none⟩ = some (.int .i64 u1) := fun p => by rw [hu1]; exact ((HOB.out.keeps p.2 (by simp)).cell wi).trans (arrI_get _ _ _ hwr)
          have hOK := O.keep
          have HOK2 := Lib.hid hOK
          have c2 : ∀ p : Later wr, p.1.cell? (adE.add (k * 5)) = some (.int .i64 (wi : Int)) := fun p => by
            obtain ⟨ad', e, _, hc⟩ := (HE.out.kept (HOK2.out.trans p.2 (by simp))) (by omega)
            cases e
            have := hc k 0 HLTN.out (by omega)
            rw [Nat.add_zero] at this
            rw [this, ← HWE.out]; rfl
          clear hu1 hOK hwi
          have HGR := Lib.hid G
          clear G
          go_wp2
          refine wp_quiet_tail_later 16 (by kernel_rfl) (by kernel_rfl) ?_
          simp only [List.take, List.drop]
          repeat (first
            | go_big_quiet_skip
            | go_big_quiet_step (fail))
          refine wpQuiet_nil ?_
          intro _ hw
          obtain ⟨p', rfl⟩ := hw
          replace O := O.keeps p'.2
          replace HGR := Lib.hid (HGR.out.new p'.2)
          clear c1 c2 HOB HOK2
          generalize p'.1 = W3 at O HGR ⊢
          refine own_storeK 0 wi (.int .i64 (u1 + 1)) (.tmp 86) (.tmp 85) O rfl rfl rfl rfl rfl rfl (by simp only [arrI_size]; exact hwr) rfl rfl (by kernel_rfl) (arrI_set _ _ _ _) ?_
          have hB := O.get 0 rfl
          clear O
          intro W4 O K
          have G := HGR.out.keeps K (fun g hg hm => gr_ne HGR.out.row hB (by decide) (by rw [hg]; congr 1; exact List.mem_singleton.1 hm)) (fun i hi hm => HGC.out i hi (List.mem_singleton.1 hm))
          clear K hB HGR
          simp only [List.set_cons_zero] at O
          rw [HUP.out] at O
          have hbc := (own_at O 0 rfl).1
          go_wp2_with (first
            | (refine own_litS 89 (.slice (some ⟨gc, 0, none⟩) r r) O rfl rfl rfl rfl rfl ?_; clear O; intro W5 gl O K hgl; replace G := G.new K; clear K hgl; simp only [Act.put, List.setIfInBounds_toArray, List.set_cons_zero, List.set_cons_succ])
            | (at_builtin; refine gr_app (.tmp 87) (.tmp 89) rowT68 O G.row rfl (by simp [Value.oneCell']) rfl rfl rfl rfl (Nat.le_refl _) O.keep.size (fun q hq => ?_) (by omega) (by decide) ?_; (· (rcases List.mem_cons.1 hq with hq | hq; (· (subst hq; exact gr_ne G.row (O.get 1 rfl) (by decide))); (· (have hq2 := List.mem_singleton.1 hq; subst hq2; exact gr_ne G.row (O.get 2 rfl) (by decide))))); have hB := O.get 1 rfl; clear O; intro v1 W6 O M K hf; have G2 := G.add hB hbc (Nat.le_refl r) (show r ≤ maxLen by simp only [maxLen]; omega) (by simp only [arrI_size]) (CurI.arr r _) HGC.out K M; clear hf K M G hB; obtain ⟨A6, c6, rfl, _⟩ := gr_shape G2.row; simp only [Act.put, List.setIfInBounds_toArray, List.set_cons_zero, List.set_cons_succ]))
          go_roundg (n - (k + 1))
          case measure => (have := HG.out; omega)
          case rel => exact ⟨k + 1, _, by omega, rfl, by go_num, O.drop_ 1, by have e : updN (fun _ => r) k r = fun _ => r := by { funext i; unfold updN; split <;> rfl }; rw [e] at G2; exact G2⟩
    · obtain rfl : n = k := by omega
      clear hlt
      go_wp2
      go_returns
      exact ⟨⟨_, rfl, .inl ⟨by first | rfl | trivial, _, _, G⟩⟩, O.keep⟩
theorem refclocks_any (hS : SysIn w S A c R d) (hE : EvsAt w B n E) : Calls Try.prog 40 #[.agg (sysV S A c R d), .slice B n cb] w (ClkPost S E n w) := by
  by_cases h : (thr S E n).2.2 = 0
  · by_cases hl : 1048576 < n * (stN E n).r.toNat
    · exact refclocks_long hS hE h hl
    · exact refclocks_good hS hE h hl
  · exact refclocks_bad hS hE h
end
end Go.Proofs.Ytakmcpadkanggaa
namespace Go.Proofs.Ytakmcpadkanggaa
open Go.ChangeShapes Go.WideShapes Go.RowKit Go.Maps Go.Deep
theorem evs_of_row3 {w w0 : World} {v : Value} {n : Nat} {E : Nat → Ev} (h : w.ownsRow w0.heap.size 37 5 v n (evL E n)) : ∃ B c, v = .slice B n c ∧ EvsAt w B n E ∧ n ≤ c ∧ c ≤ maxLen := by
  obtain ⟨B, c, rfl, hE⟩ := evs_of_row h
  refine ⟨B, c, rfl, hE, ?_⟩
  obtain ⟨_, ⟨e, hn⟩ | ⟨g, cap, cur, e, _, hb, hle, hm, hs, ht⟩⟩ := h
  · injection e with _ _ e; subst hn; subst e; exact ⟨Nat.le_refl _, by simp [maxLen]⟩
  · injection e with _ _ e; subst e; exact ⟨hle, hm⟩
section
variable {w : World} {S : Sys} {A : Option Addr} {c : Nat} {R : Option Addr} {d n : Nat} {E : Nat → Ev} {B : Option Addr} {cb : Nat}
set_option maxRecDepth 100000 in
theorem copied_rm (hE : EvsAt w B n E) (hB : B = none → n = 0 ∧ cb = 0) (hn : n * 40 ≤ 140737488351232) : Calls Try.prog 27 #[.slice B n cb] w fun e w' => (∃ B' c', e = .returned (.slice B' n c') ∧ EvsAt w' B' n E ∧ n ≤ c' ∧ c' ≤ maxLen) ∧ Keeps w w' [] := by
  obtain ⟨i, hi, hz, hsz, hby⟩ := info37
  rcases B with _ | ad
  · obtain ⟨rfl, rfl⟩ := hB rfl
    go_enter Try.func27, Try.ntmps27
    go_wp2_with (at_builtin; refine wpList_append_own_none rfl (.tmp 4) (.tmp 5) 31 rfl w.heap.size 37 i 5 Try.underlying31 hi (.slice none 0 0) 0 [] rfl (World.ownsRow_nil _ _ _ _) rfl ?_; simp only [Act.put, List.setIfInBounds_toArray, List.set_cons_zero, List.set_cons_succ])
    go_ret
    exact ⟨⟨none, 0, rfl, fun h => by omega, by simp [maxLen]⟩, Keeps.refl _ _⟩
  · have HC := Lib.hid (show ∀ j u, (evL E n)[j]? = some u → w.cell? (ad.add j) = some u from fun j u hu => by
      have hj : j < n * 5 := by
        rcases Nat.lt_or_ge j (n * 5) with h | h
        · exact h
        · rw [List.getElem?_eq_none (by rw [evL_length]; exact h)] at hu; cases hu
      obtain ⟨ad', e, _, hc⟩ := hE (by omega)
      cases e
      have h1 := hc (j / 5) (j % 5) (by omega) (by omega)
      rw [show j / 5 * 5 + j % 5 = j by omega] at h1
      have h2 := evL_get E n (j / 5) (j % 5) (by omega) (by omega)
      rw [show j / 5 * 5 + j % 5 = j by omega] at h2
      rw [h1, ← h2, hu])
    clear hE hB
    go_enter Try.func27, Try.ntmps27
    go_wp2_with (at_builtin; refine wpList_append_own _ rfl (.tmp 4) (.tmp 5) 31 rfl w.heap.size 37 i (.agg (evC ⟨0, 0, 0, 0, false⟩)) 5 40 Try.underlying31 hi hz hsz hby rfl (by decide) (.slice none 0 0) 0 [] rfl (World.ownsRow_nil _ _ _ _) ad n cb (evL E n) rfl (evL_length E n) HC.out (evL_cell E n) (by simp only [maxLen]; omega) (by omega) (Nat.le_refl _) ?_; intro v' u h1 h2 _; simp only [Act.put, List.setIfInBounds_toArray, List.set_cons_zero, List.set_cons_succ])
    simp only [Nat.zero_add, List.nil_append] at h1
    obtain ⟨B', c', rfl, hE', hr, hr'⟩ := evs_of_row3 h1
    go_ret
    exact ⟨⟨B', c', rfl, hE', hr, hr'⟩, ⟨h2.os, h2.tape, h2.output, h2.size, fun b hb _ => h2.block b hb (by simp [Value.ownBlock])⟩⟩
end
end Go.Proofs.Ytakmcpadkanggaa
namespace Go.Proofs.Ytakmcpadkanggaa
open Go.RowKit Go.Maps Go.Deep
section
variable {ops : Array Oper} {rest : List Oper} {o : Oper} {a : Act} {w W : World} {Q : Exit → Act → World → Prop} {S : List Nat} {L : List Ent} {base e size n : Nat} {v : Value} {xs : List Value}
/-- One cell of a row of one's own is written. -/
theorem gr_store (j : Nat) (x : Value) (ad : Addr) (m c ty : Nat) (y z : Operand) (O : Own w W S L) (M : W.ownsRow base e size v n xs) (hv : v = .slice (some ad) m c) (hj : j < xs.length) (hgd : o.guard = none) (hdst : o.dst = none) (ho : o.op = .store ty y z) (hy : a.eval y = .pointer (some (ad.add j))) (hz : a.eval z = x)
    (hx : x.cells = #[x]) (h1 : x.oneCell' = true) (hs : (Try.prog.info? ty).map (·.size) = some 1) (hb : w.heap.size ≤ base) (hL : ∀ q ∈ L, v.ownBlock ≠ some q.1) (h : ∀ u, Own w u S L → u.ownsRow base e size v n (xs.set j x) → Keeps W u v.ownBlock.toList → wpList Try.prog ops Q rest a u) : wpList Try.prog ops Q (o :: rest) a W := by
  obtain ⟨hl, ⟨rfl, _⟩ | ⟨g, cap, cur, rfl, hbg, hB, hle, hm, hsz, ht⟩⟩ := M
  · cases hv
  · simp only [Value.slice.injEq, Option.some.injEq] at hv
    obtain ⟨rfl, rfl, rfl⟩ := hv
    have hjc : j < cur.size := by
      have h2 : (cur.toList.take (n * size)).length = xs.length := by rw [ht]
      rw [List.length_take, Array.length_toList] at h2
      omega
    refine wpList_store_blk g j e cur x hgd hdst ho (by rw [hy, addr_zero_add]) hz hB hjc hx h1 hs fun u K b => ?_
    have hK : Keeps W u (Value.slice (some ⟨g, 0, none⟩) n cap).ownBlock.toList := K
    refine h u (O.wrote K (fun q hq hlt => ?_) (fun q hq hm => ?_)) ?_ hK
    · obtain rfl : q = g := by simpa using hq
      omega
    · have e1 : q.1 = g := by simpa using hm
      exact hL q hq (by rw [e1]; rfl)
    · refine ⟨by simpa using hl, .inr ⟨g, cap, _, rfl, hbg, b, hle, hm, by simpa using hsz, ?_⟩⟩
      rw [Array.toList_setIfInBounds, List.take_set, ht]
end
theorem EvsAt.keptS {w u : World} {A : Option Addr} {n : Nat} {E : Nat → Ev} (h : EvsAt w A n E) (k : Keeps w u []) : EvsAt u A n E := h.kept k
end Go.Proofs.Ytakmcpadkanggaa
namespace Go.Proofs.Ytakmcpadkanggaa
open Go.RowKit Go.Maps Go.Deep
theorem Mint.apart {base : Nat} {W : World} {v : Value} {xs : List Int} (h : Mint base W v xs) {g t : Nat} {cs : Array Value} (hB : Blk W g t cs) (ht : t ≠ 3) : ∀ b, v.ownBlock = some b → b ∉ [g] := fun b hb hm => by
  obtain ⟨_, _, cur, hcur⟩ := h.own hb
  obtain rfl : b = g := by simpa using hm
  rw [Blk, hcur] at hB
  injection hB with hB
  injection hB with _ h1 _
  exact ht h1.symm
end Go.Proofs.Ytakmcpadkanggaa
namespace Go.Proofs.Ytakmcpadkanggaa
open Go.RowKit Go.Maps Go.Deep
section
variable {ops : Array Oper} {rest : List Oper} {o : Oper} {a : Act} {w W : World} {Q : Exit → Act → World → Prop} {S : List Nat} {L : List Ent} {T e size bytes n base gl : Nat} {z v : Value} {xs : List Value} {cs : Array Value} {x0 : Operand}
/-- Some elements more. -/
theorem gr_appM (m : Nat) (s y : Operand) (hT : RowT T e size bytes z) (O : Own w W S ((gl, e, cs) :: L)) (M : W.ownsRow base e size v n xs) (hcs : cs.size = m * size) (h1 : ∀ u ∈ cs.toList, u.oneCell' = true) (hgd : o.guard = none)
    (ho : o.op = .call { callee := .builtin .append, args := #[s, y], argTypes := #[T, T] }) (hs : a.eval s = v) (hy : a.eval y = .slice (some ⟨gl, 0, none⟩) m m) (hb : w.heap.size ≤ base) (hbW : base ≤ W.heap.size) (hL : ∀ q ∈ L, v.ownBlock ≠ some q.1)
    (hn : n ≤ 5000000) (hm : 0 < m ∧ m ≤ 10) (hby : bytes ≤ 1000)
    (h : ∀ v' u, Own w u S L → u.ownsRow base e size v' (n + m) (xs ++ cs.toList) → Keeps W u v.ownBlock.toList → (v'.ownBlock = v.ownBlock ∨ v'.ownBlock = some W.heap.size) → wpList Try.prog ops Q rest (a.put o.dst v') u) : wpList Try.prog ops Q (o :: rest) a W := by
  obtain ⟨ht, ⟨i, hi, hz, hsz, hbt⟩, hzs, hpos⟩ := hT
  have hB := O.get 0 rfl
  have hl : cs.toList.length = m * size := by rw [← hcs]; simp
  have hnews : ∀ j u, cs.toList[j]? = some u → W.cell? ((⟨gl, 0, none⟩ : Addr).add j) = some u := gr_news hB
  have hbytes : (n + m) * bytes ≤ 140737488355328 := Nat.le_trans (Nat.mul_le_mul (show n + m ≤ 5000010 by omega) hby) (by decide)
  obtain ⟨v', u, hr, h2, h3, _⟩ := run_append_own (P := Try.prog) W base T o.type e i z size bytes ht hi hz hsz hbt hzs hpos v n _ M ⟨gl, 0, none⟩ m m cs.toList hl hnews h1 (by simp only [maxLen]; omega) hbytes hbW
  have hf := append_fresh (w := W) (P := Try.prog) base T o.type e i z size bytes ht hi hz hsz hbt v n _ M ⟨gl, 0, none⟩ m m cs.toList hl hnews h1 (by simp only [maxLen]; omega) hbytes (by omega) hr
  refine wpList_plain hgd fun K hK => ?_
  unfold Oper.wp execOp
  simp only [ho, resolve, invoke, builtin, Sem.run_bind, Sem.run_pure, Result.andThen_ok, List.map_toArray, List.map_cons, List.map_nil, hs, hy, hr]
  have hk := grown_keepsV h3
  refine hK _ _ (h v' u ((O.drop_ 1).wrote hk (fun b hb' hlt => ?_) (fun q hq hm => hL q hq (by simpa using hm))) h2 hk hf)
  have := (gr_own M (g := b) (by simpa using hb')).1
  omega
end
end Go.Proofs.Ytakmcpadkanggaa
namespace Go.Proofs.Ytakmcpadkanggaa
open Go.RowKit Go.Maps Go.Deep
theorem rowT25 : RowT 25 3 1 8 (.int .i64 0) := by
  have h : (Try.prog.info? 3).map (fun i => (i.zero, i.size, i.bytes)) = some (some (.int .i64 0), 1, 8) := by kernel_rfl
  obtain ⟨i, hi, he⟩ := Option.map_eq_some_iff.1 h
  simp only [Prod.mk.injEq] at he
  exact ⟨Try.underlying25, ⟨i, hi, he.1, he.2.1, he.2.2⟩, rfl, by decide⟩
section
variable {ops : Array Oper} {rest : List Oper} {o : Oper} {a : Act} {w W : World} {Q : Exit → Act → World → Prop} {S : List Nat} {L : List Ent} {x0 x1 x2 : Operand}
theorem own_litT (d : Nat) (n0 n1 n2 : Int) (O : Own w W S L) (_hd : o.dst = some d) (hgd : o.guard = none) (ho : o.op = .buildSlice 25 3 #[(0, x0), (1, x1), (2, x2)]) (h0 : a.eval x0 = .int .i64 n0) (h1 : a.eval x1 = .int .i64 n1) (h2 : a.eval x2 = .int .i64 n2)
    (h : ∀ u g, Own w u S ((g, 3, #[.int .i64 n0, .int .i64 n1, .int .i64 n2]) :: L) → Keeps W u [] → wpList Try.prog ops Q rest (a.put o.dst (.slice (some ⟨g, 0, none⟩) 3 3)) u) : wpList Try.prog ops Q (o :: rest) a W := by
  obtain ⟨i, hi, hz, hs, hb⟩ := info3
  have k := (Keeps.refl W []).alloc (.cells #[Value.int .i64 n0, .int .i64 n1, .int .i64 n2] 3)
  refine wpList_buildSlice hgd 25 3 3 _ ho #[.int .i64 n0, .int .i64 n1, .int .i64 n2] i (.int .i64 0) Try.underlying25 hi hz (by rw [hs]; decide) (by rw [hs]; decide) ?_ (h _ _ (O.add k (Blk.new _ _ _)) k)
  rw [hs]
  have e : ((#[(0, x0), (1, x1), (2, x2)] : Array (Nat × Operand)).map (fun (i, x) => (i, a.eval x))).toList = [(0, .int .i64 n0), (1, .int .i64 n1), (2, .int .i64 n2)] := by simp [h0, h1, h2]
  rw [e]
  have r : Array.range 3 = #[0, 1, 2] := by decide
  simp [Instr.fill, r, Value.cells]
end
/-- The rows from q on are as they were made, but for what stands in them. -/
structure Rest (base : Nat) (W : World) (v : Value) (m r : Nat) (nb cp : Nat → Nat) (q : Nat) : Prop where
  row : ∃ vs, W.ownsRow base 25 1 v m vs ∧ ∀ i, q ≤ i → i < m → vs[i]? = some (.slice (some ⟨nb i, 0, none⟩) r (cp i))
  cl : ∀ i, q ≤ i → i < m → ∃ xs, W.ownsRow base 3 1 (.slice (some ⟨nb i, 0, none⟩) r (cp i)) r xs
  ne : ∀ i j, q ≤ i → q ≤ j → i < m → j < m → i ≠ j → nb i ≠ nb j
section
variable {base m r q : Nat} {W u : World} {v : Value} {nb cp : Nat → Nat} {F : Nat → Int → Int} {S : List Nat}
theorem cur_owns {g c : Nat} {cu : Array Value} {f : Int → Int} (hb : base ≤ g) (hB : Blk W g 3 cu) (hc : r ≤ c) (hm : c ≤ maxLen) (hs : cu.size = c) (_hcu : CurI cu r f) : W.ownsRow base 3 1 (.slice (some ⟨g, 0, none⟩) r c) r (cu.toList.take (r * 1)) := by
  refine ⟨?_, .inr ⟨g, c, cu, rfl, hb, hB, hc, hm, by omega, rfl⟩⟩
  rw [List.length_take, Array.length_toList]
  omega
theorem GridAt.rest (G : GridAt base W v m r nb cp F) : Rest base W v m r nb cp 0 := by
  refine ⟨⟨_, G.row, fun i _ hi => gridL_get hi⟩, fun i _ hi => ?_, fun i j _ _ hi hj => G.ne i j hi hj⟩
  obtain ⟨a, b, c, cu, hB, hs, hc⟩ := G.cl i hi
  exact ⟨_, cur_owns a hB b c hs hc⟩
theorem Rest.keeps (h : Rest base W v m r nb cp q) (K : Keeps W u S) (h1 : ∀ g, v.ownBlock = some g → g ∉ S) (h2 : ∀ i, q ≤ i → i < m → nb i ∉ S) : Rest base u v m r nb cp q := by
  obtain ⟨⟨vs, M, hv⟩, hc, hn⟩ := h
  refine ⟨⟨vs, gr_keeps M K h1, hv⟩, fun i hq hi => ?_, hn⟩
  obtain ⟨xs, X⟩ := hc i hq hi
  refine ⟨xs, gr_keeps X K fun g hg => ?_⟩
  have e : nb i = g := by simpa [Value.ownBlock] using hg
  rw [← e]
  exact h2 i hq hi
/-- Row q alone is written. -/
theorem Rest.wrote (h : Rest base W v m r nb cp q) (hq : q < m) (K : Keeps W u [nb q]) {xs : List Value} (X : u.ownsRow base 3 1 (.slice (some ⟨nb q, 0, none⟩) r (cp q)) r xs) : Rest base u v m r nb cp q := by
  obtain ⟨⟨vs, M, hv⟩, hc, hn⟩ := h
  obtain ⟨xq, Xq⟩ := hc q (Nat.le_refl _) hq
  obtain ⟨_, _, cur, hB⟩ := gr_own Xq (g := nb q) rfl
  refine ⟨⟨vs, gr_keeps M K (fun g hg hm => gr_ne M hB (by decide) (by rw [hg, List.mem_singleton.1 hm])), hv⟩, fun i hqi hi => ?_, hn⟩
  by_cases e : i = q
  · subst e; exact ⟨xs, X⟩
  · obtain ⟨ys, Y⟩ := hc i hqi hi
    refine ⟨ys, gr_keeps Y K fun g hg hm => ?_⟩
    have e1 : nb i = g := by simpa [Value.ownBlock] using hg
    exact hn i q hqi (Nat.le_refl _) hi hq e (by rw [e1]; exact List.mem_singleton.1 hm)
/-- Row q is done with. -/
theorem Rest.next (h : Rest base W v m r nb cp q) (K : Keeps W u S) (h2 : ∀ i, q < i → i < m → nb i ∉ S) {vs' : List Value} (M : u.ownsRow base 25 1 v m vs') (hv : ∀ i, q < i → i < m → vs'[i]? = some (.slice (some ⟨nb i, 0, none⟩) r (cp i))) : Rest base u v m r nb cp (q + 1) := by
  obtain ⟨_, hc, hn⟩ := h
  refine ⟨⟨vs', M, fun i hq hi => hv i (by omega) hi⟩, fun i hq hi => ?_, fun i j a b => hn i j (by omega) (by omega)⟩
  obtain ⟨xs, X⟩ := hc i (by omega) hi
  refine ⟨xs, gr_keeps X K fun g hg => ?_⟩
  have e : nb i = g := by simpa [Value.ownBlock] using hg
  rw [← e]
  exact h2 i (by omega) hi
end
section
variable {w : World} {S : Sys} {A : Option Addr} {c : Nat} {R : Option Addr} {d n : Nat} {E : Nat → Ev} {B : Option Addr} {cb : Nat}
/-- Clocks handed out: as many as there are. -/
def ClkPost2 (E : Nat → Ev) (rm : Int → Int) (m r : Nat) (er : Int) (w : World) (e : Ending) (u : World) : Prop :=
  (∃ v nb cp, e = .returned (.tuple #[v, .int .i64 er]) ∧ GridAt w.heap.size u v m r nb cp (fun i => clk E rm (i : Int))) ∧ Keeps w u []
theorem clk_post2 {e : Ending} {u : World} (h : ClkPost S E n w e u) : ClkPost2 E (rmS S) (if clkE S E n = 0 then n else 0) (if clkE S E n = 0 then (stN E n).r.toNat else 0) (clkE S E n) w e u := by
  obtain ⟨⟨v, he, ⟨h0, nb, cp, G⟩ | ⟨h0, rfl⟩⟩, K⟩ := h
  · rw [if_pos h0, if_pos h0]; exact ⟨⟨v, nb, cp, he, G⟩, K⟩
  · rw [if_neg h0, if_neg h0]; exact ⟨⟨_, fun _ => 0, fun _ => 0, he, GridAt.nil _ _ _ _ _ _⟩, K⟩
set_option maxRecDepth 100000 in
set_option maxHeartbeats 4000000 in
theorem clocks_walk (hS : SysIn w S A c R d) (hE : EvsAt w B n E) (hwf : ∀ i, i < n → (Lit.int .i64 (E i).a).wf = true) (hB : B = none → n = 0 ∧ cb = 0) (hn : n * 40 ≤ 140737488351232) :
    Calls Try.prog 12 #[.agg (sysV S A c R d), .slice B n cb] w fun e w' => e = .returned (.bool true) ∧ Keeps w w' [] := by
  have O := Own.start w []
  have HC := Lib.hid (fun u (k : Keeps w u []) => copied_rm (cb := cb) (hE.kept k) hB hn)
  have HA := Lib.hid (fun u (k : Keeps w u []) B' c' (h : EvsAt u B' n E) => (tclocks_any (cb := c') (hS.kept k) h hwf).mono fun _ _ h => clk_post2 h)
  have HR := Lib.hid (fun u (k : Keeps w u []) => (refclocks_any (cb := cb) (hS.kept k) (hE.kept k)).mono fun _ _ h => clk_post2 h)
  have HK := Lib.hid (fun u (k : Keeps w u []) B' c' (h : EvsAt u B' n E) => kept_any (cb := c') (cb' := cb) (show n ≤ 140737488351232 by omega) h (hE.kept k))
  have hrm : clkE S E n = 0 → n ≤ 40000 := fun h0 => by
    have ht : (thr S E n).2.2 = 0 := by
      unfold clkE at h0
      by_cases e : (thr S E n).2.2 = 0
      · exact e
      · rw [if_neg e] at h0; exact absurd h0 e
    exact (thr_zero ht).2.1
  have hrb : (if clkE S E n = 0 then (stN E n).r.toNat else 0) ≤ 1000000 := by
    split
    · rename_i h0
      have := hrm h0
      have := stN_le E n
      omega
    · omega
  have hmb : (if clkE S E n = 0 then n else 0) ≤ 1000000 := by
    split
    · rename_i h0
      have := hrm h0
      omega
    · omega
  clear hrm
  clear hS hE hwf hB hn
  generalize (if clkE S E n = 0 then (stN E n).r.toNat else 0) = r at *
  generalize (if clkE S E n = 0 then n else 0) = m at *
  generalize clkE S E n = er at *
  generalize rmS S = rm at *
  go_enter Try.func12, Try.ntmps12
  go_wp2_with (first
    | go_big_skip
    | (refine own_box 2 (sysV S A c R d) O rfl rfl rfl rfl ?_; clear O; intro W a2 O; simp only [Act.put, List.setIfInBounds_toArray, List.set_cons_zero, List.set_cons_succ])
    | (go_at_call 27; refine (HC.out _ O.keep).mono ?_; rintro e W0 ⟨⟨B1, c1, rfl, q1, q2, q3⟩, K⟩; replace O := O.keeps K; clear K; have HE1 := Lib.hid q1; clear q1 q2 q3))
  have HK0 := Lib.hid O.keep
  have hb2 := O.get 0 rfl
  have HB2 := Lib.hid hb2
  clear hb2 O
  go_loopg [6] 2 (fun g s6 wr => ∃ q, q ≤ 2 ∧ g = 2 - q ∧ s6 = .int .i64 (q : Int) ∧ Keeps W0 wr [])
  case atStart => exact ⟨0, by omega, by omega, rfl, Keeps.refl _ _⟩
  case round =>
    obtain ⟨t, ht, hgt, rfl, K0⟩ := hrel
    rename World => wt
    have HG := Lib.hid hgt
    clear hgt
    by_cases htt : t < 2
    · have g1 : (t : Int) < 2 := by omega
      have O : Own wt wt [] [] := Own.start wt []
      have KW := Lib.hid (HK0.out.trans K0 (by simp))
      have KZ := Lib.hid K0
      have b2 := HB2.out.keeps K0 (by simp)
      have HBW := Lib.hid b2
      clear K0 b2
      have e1 : (er != er) = false := by simp
      have e2 : ((m : Int) != (m : Int)) = false := by simp
      go_wp2_with (first
        | go_big_skip
        | (refine wpList_load_blk 22 rfl rfl rfl rfl HBW.out Try.underlying27 rfl (by kernel_rfl) ?_; simp only [Act.put, List.setIfInBounds_toArray, List.set_cons_zero, List.set_cons_succ])
        | (go_at_call 39; refine (HA.out _ KW.out _ _ (HE1.out.kept KZ.out)).mono ?_; rintro e Wa ⟨⟨va, nba, cpa, rfl, GA⟩, Ka⟩; replace O := O.keeps Ka; obtain ⟨Aa, ca, rfl, hnza, _⟩ := gr_shape GA.row; have HBa := Lib.hid (HBW.out.keeps Ka (by simp)); clear Ka)
        | (refine wpList_load_blk 28 rfl rfl rfl rfl HBa.out Try.underlying27 rfl (by kernel_rfl) ?_; simp only [Act.put, List.setIfInBounds_toArray, List.set_cons_zero, List.set_cons_succ])
        | (go_at_call 40; refine (HR.out _ (KW.out.trans O.keep (by simp))).mono ?_; rintro e Wb ⟨⟨vb, nbb, cpb, rfl, GB⟩, Kb⟩; replace O := O.keeps Kb; replace GA := GA.new Kb; obtain ⟨Ab, cbb, rfl, hnzb, _⟩ := gr_shape GB.row; clear Kb))
      have HNZ := Lib.hid (And.intro hnza hnzb)
      clear hnza hnzb e1 e2
      go_loopg [11] m (fun g s11 wi => ∃ q, q ≤ m ∧ g = m - q ∧ s11 = .int .i64 (q : Int) ∧ Own wt wi [] [] ∧ GridAt wt.heap.size wi (.slice Aa m ca) m r nba cpa (fun i => clk E rm (i : Int)) ∧ GridAt Wa.heap.size wi (.slice Ab m cbb) m r nbb cpb (fun i => clk E rm (i : Int)))
      case atStart => exact ⟨0, by omega, by omega, rfl, O, GA, GB⟩
      case round =>
        clear O GA GB
        obtain ⟨q, hq, hgq, rfl, O, GA, GB⟩ := hrel
        have HG2 := Lib.hid hgq
        clear hgq
        by_cases hqt : q < m
        · have g2 : (q : Int) < m := by omega
          have g3 : (0 : Int) ≤ q := by omega
          obtain ⟨aa, rfl⟩ : ∃ aa, Aa = some aa := Option.ne_none_iff_exists'.1 (fun e => by have := (HNZ.out.1 e).1; omega)
          obtain ⟨ab, rfl⟩ : ∃ ab, Ab = some ab := Option.ne_none_iff_exists'.1 (fun e => by have := (HNZ.out.2 e).1; omega)
          have HGA := Lib.hid GA
          have HGB := Lib.hid GB
          clear GA GB
          have HRD := Lib.hid (fun u (K : Keeps wt u []) (hz : Own wt u [] []) => True.intro)
          clear HRD
          go_wp2
          have HCL := fun (u : World) (hA : GridAt wt.heap.size u (.slice (some aa) m ca) m r nba cpa (fun i => clk E rm (i : Int))) (hB : GridAt Wa.heap.size u (.slice (some ab) m cbb) m r nbb cpb (fun i => clk E rm (i : Int))) => (show u.cell? (aa.add q) = some (.slice (some ⟨nba q, 0, none⟩) r (cpa q)) ∧ u.cell? (ab.add q) = some (.slice (some ⟨nbb q, 0, none⟩) r (cpb q)) from ⟨grid_rowP hA rfl hqt, grid_rowP hB rfl hqt⟩)
          refine wp_held (S := fun u => u.cell? (aa.add q) = some (.slice (some ⟨nba q, 0, none⟩) r (cpa q)) ∧ u.cell? (ab.add q) = some (.slice (some ⟨nbb q, 0, none⟩) r (cpb q))) 10 #[false, false, false, false, false, false, false, false, false, false] (by kernel_rfl) rfl rfl ?_
          replace O := O.drew
          replace HGA := Lib.hid (HGA.out.new (Keeps.refl _ []).drew)
          replace HGB := Lib.hid (HGB.out.new (Keeps.refl _ []).drew)
          refine seg_take (fuel := 2) (L' := #[true, true, true, true, true, true, true, true, false, false]) (by kernel_rfl) (fun _ _ _ _ _ _ h => h) (HCL _ HGA.out HGB.out) [0, 1, 2, 3, 4, 5, 6, 7] [_, _, _, _, _, _, _, _] _ _ rfl (by kernel_rfl) ?_
          simp only [List.getElem_toArray, List.getElem_cons_zero, List.getElem_cons_succ]
          repeat (first
            | (refine take_pure (v := ?_) (by rfl) ?_ ?_; rotate_left; (· (intro w hSw; have q1 := hSw.1; have q2 := hSw.2; clear hSw; go_simp; try with_reducible rfl)); simp only [Act.put, List.setIfInBounds_toArray, List.set_cons_zero, List.set_cons_succ]))
          refine take_done ?_
          refine seg_sole 8 #[true, true, true, true, true, true, true, true, true, false] rfl (by kernel_rfl) ?_
          try simp only [List.getElem_toArray, List.getElem_cons_zero, List.getElem_cons_succ]
          go_wp2_with (go_at_call 34; refine (alikes_same _ _ (rowOf r (clk E rm (q : Int))) (by rw [rowOf_length]; exact hrb) ((HGA.out.clk hqt).ints (cpa q)) ((HGB.out.clk hqt).ints (cpb q))).mono ?_; rintro e W3 ⟨rfl, K⟩; replace O := O.keeps K; replace HGA := Lib.hid (HGA.out.new K); replace HGB := Lib.hid (HGB.out.new K); clear K)
          (first | refine back_intro2 (HCL _ HGA.out HGB.out) ?_ | refine back_intro (HCL _ HGA.out HGB.out) ?_)
          refine seg_take (fuel := 0) (L' := #[true, true, true, true, true, true, true, true, true, true]) (by kernel_rfl) (fun _ _ _ _ _ _ h => h) (HCL _ HGA.out HGB.out) [9] [_] _ _ rfl (by kernel_rfl) ?_
          simp only [List.getElem_toArray, List.getElem_cons_zero, List.getElem_cons_succ]
          repeat (first
            | (refine take_pure (v := ?_) (by rfl) ?_ ?_; rotate_left; (· (intro w hSw; have q1 := hSw.1; have q2 := hSw.2; clear hSw; go_simp; try with_reducible rfl)); simp only [Act.put, List.setIfInBounds_toArray, List.set_cons_zero, List.set_cons_succ]))
          refine take_done ?_
          refine seg_done (by kernel_rfl) ?_
          go_wp2
          go_roundg (m - (q + 1))
          case measure => (have := HG2.out; omega)
          case rel => exact ⟨q + 1, by omega, rfl, by go_num, O, HGA.out, HGB.out⟩
        · obtain rfl : m = q := by omega
          have RA := GA.rest
          clear GA GB hqt HG2
          go_wp2
          go_loopg [12] m (fun g s12 wi => ∃ q, q ≤ m ∧ g = m - q ∧ s12 = .int .i64 (q : Int) ∧ Own wt wi [] [] ∧ Rest wt.heap.size wi (.slice Aa m ca) m r nba cpa q)
          case atStart => exact ⟨0, by omega, by omega, rfl, O, RA⟩
          case round =>
            clear O RA
            obtain ⟨q, hq, hgq, rfl, O, RA⟩ := hrel
            have HG2 := Lib.hid hgq
            clear hgq
            by_cases hqt : q < m
            · have g2 : (q : Int) < m := by omega
              have g3 : (0 : Int) ≤ q := by omega
              have HQT := Lib.hid hqt
              obtain ⟨aa, rfl⟩ : ∃ aa, Aa = some aa := Option.ne_none_iff_exists'.1 (fun e => by have := (HNZ.out.1 e).1; omega)
              go_wp2
              go_loopg [13] r (fun g s13 wi => ∃ y, y ≤ r ∧ g = r - y ∧ s13 = .int .i64 (y : Int) ∧ Own wt wi [] [] ∧ Rest wt.heap.size wi (.slice (some aa) m ca) m r nba cpa q)
              case atStart => exact ⟨0, by omega, by omega, rfl, O, RA⟩
              case round =>
                clear O RA
                obtain ⟨y, hy, hgy, rfl, O, RA⟩ := hrel
                have HG3 := Lib.hid hgy
                clear hgy
                obtain ⟨⟨vs, MV, hvs⟩, hcl, hne⟩ := RA
                obtain ⟨xs, XQ⟩ := hcl q (Nat.le_refl _) hqt
                have cr := (gr_cell MV rfl (hvs q (Nat.le_refl _) hqt)).2
                have HRA := Lib.hid (Rest.mk ⟨vs, MV, hvs⟩ hcl hne)
                have HMV := Lib.hid MV
                have HVS := Lib.hid hvs
                clear hcl hne MV hvs
                by_cases hyt : y < r
                · have g4 : (y : Int) < r := by omega
                  have g5 : (0 : Int) ≤ y := by omega
                  go_wp2_with (first
                    | (refine gr_store y (.int .i64 (-1 - (q : Int))) ⟨nba q, 0, none⟩ r (cpa q) 3 (.tmp 81) (.tmp 80) O XQ rfl (by have := XQ.1; omega) rfl rfl rfl (by rw [addr_zero_add]; rfl) rfl rfl rfl (by kernel_rfl) (Nat.le_refl _) (by simp) ?_; clear O cr; intro u O X2 K; replace HRA := Lib.hid (HRA.out.wrote HQT.out K X2); clear K X2 XQ))
                  go_roundg (r - (y + 1))
                  case measure => (have := HG3.out; omega)
                  case rel => exact ⟨y + 1, by omega, rfl, by go_num, O, HRA.out⟩
                · obtain rfl : r = y := by omega
                  have hlq := (gr_own XQ (g := nba q) rfl).2.1
                  have HLI := Lib.hid (fun i (h1 : q < i) (h2 : i < m) => (show nba i < wr.heap.size from by
                    obtain ⟨ys, Y⟩ := HRA.out.cl i (by omega) h2
                    exact (gr_own Y (g := nba i) rfl).2.1))
                  go_wp2_with (first
                    | (refine own_litT 86 1 2 3 O rfl rfl rfl rfl rfl rfl ?_; clear O cr; intro W5 gl O K; replace XQ := gr_keeps XQ K (by simp); replace HRA := Lib.hid (HRA.out.keeps K (by simp) (by simp)); replace HMV := Lib.hid (gr_keeps HMV.out K (by simp)); have HKS := Lib.hid K.size; clear K; simp only [Act.put, List.setIfInBounds_toArray, List.set_cons_zero, List.set_cons_succ])
                    | (at_builtin; refine gr_appM (z := .int .i64 0) 3 (.tmp 85) (.tmp 86) rowT25 O XQ rfl (by simp [Value.oneCell']) rfl rfl rfl rfl (Nat.le_refl _) O.keep.size (by simp) (by omega) (by decide) (by decide) ?_; clear O; intro v1 W6 O X1 K hf; have HF1 := Lib.hid hf; have HK1 := Lib.hid K; have HMV1 := Lib.hid (gr_keeps HMV.out K (fun g hg hm => (by obtain ⟨_, _, cur, hbq⟩ := gr_own XQ (g := nba q) rfl; exact gr_ne HMV.out hbq (by decide) (by rw [hg]; congr 1; simpa [Value.ownBlock] using hm)))); clear hf K; obtain ⟨A1, c1x, rfl, _⟩ := gr_shape X1; simp only [Act.put, List.setIfInBounds_toArray, List.set_cons_zero, List.set_cons_succ])
                    | (refine own_lit1 90 (q : Int) O rfl rfl rfl rfl ?_; clear O; intro W7 gl2 O K hgl; replace X1 := gr_keeps X1 K (by simp); have HMV2 := Lib.hid (gr_keeps HMV1.out K (by simp)); have HK2 := Lib.hid K; clear K hgl; simp only [Act.put, List.setIfInBounds_toArray, List.set_cons_zero, List.set_cons_succ])
                    | (at_builtin; refine gr_app (z := .int .i64 0) (.tmp 88) (.tmp 90) rowT25 O X1 rfl (by simp [Value.oneCell']) rfl rfl rfl rfl (Nat.le_refl _) O.keep.size (by simp) (by omega) (by decide) ?_; clear O; intro v2 W8 O X2 K hf; have HK3 := Lib.hid K; have HMV3 := Lib.hid (gr_keeps HMV2.out K (fun g hg hm => (by obtain ⟨_, _, cur, hbq⟩ := gr_own X1 (g := g) (by simpa using hm); exact gr_ne HMV2.out hbq (by decide) hg))); clear hf K; obtain ⟨A2, c2x, rfl, _⟩ := gr_shape X2; simp only [Act.put, List.setIfInBounds_toArray, List.set_cons_zero, List.set_cons_succ])
                    | (refine gr_store q (.slice A2 (r + 3 + 1) c2x) aa m ca 25 (.tmp 95) (.tmp 94) O HMV3.out rfl (by have := HMV3.out.1; have := HQT.out; omega) rfl rfl rfl rfl rfl rfl rfl (by kernel_rfl) (Nat.le_refl _) (by simp) ?_; clear O; intro u O M2 K; have HK4 := Lib.hid K; clear K))
                  have RN : Rest wt.heap.size u (.slice (some aa) m ca) m r nba cpa (q + 1) := by
                    refine Rest.next HRA.out (((HK1.out.wide (L' := nba q :: ((Value.slice A1 (r + 3) c1x).ownBlock.toList ++ (Value.slice (some aa) m ca).ownBlock.toList)) (fun b hb => by simp [Value.ownBlock] at hb; simp [hb])).trans HK2.out (by simp)).trans HK3.out (fun b hb _ => by simp only [List.mem_cons, List.mem_append]; exact .inr (.inl hb)) |>.trans HK4.out (fun b hb _ => by simp only [List.mem_cons, List.mem_append]; exact .inr (.inr hb))) (fun i h1 h2 hm => ?_) M2 (fun i h1 h2 => ?_)
                    · rcases List.mem_cons.1 hm with e | hm
                      · exact HRA.out.ne i q (by omega) (Nat.le_refl _) h2 HQT.out (by omega) e
                      · rcases List.mem_append.1 hm with hm | hm
                        · rcases HF1.out with hf | hf
                          · rw [hf] at hm
                            exact HRA.out.ne i q (by omega) (Nat.le_refl _) h2 HQT.out (by omega) (by simpa [Value.ownBlock] using hm)
                          · rw [hf] at hm
                            have e : nba i = W5.heap.size := by simpa using hm
                            have := HLI.out i h1 h2
                            have := HKS.out
                            omega
                        · obtain ⟨ys, Y⟩ := HRA.out.cl i (by omega) h2
                          obtain ⟨_, _, cur, hbq⟩ := gr_own Y (g := nba i) rfl
                          obtain ⟨⟨vs', MV', _⟩, _⟩ := HRA.out
                          exact gr_ne MV' hbq (by decide) (by simpa using hm)
                    · rw [List.getElem?_set_ne (by omega)]
                      exact HVS.out i (by omega) h2
                  go_wp2
                  go_roundg (m - (q + 1))
                  case measure => (have := HG2.out; omega)
                  case rel => exact ⟨q + 1, by have := HQT.out; omega, rfl, by go_num, O, RN⟩
            · obtain rfl : m = q := by omega
              have K1 := KZ.out.trans O.keep (by simp)
              have HK1 := Lib.hid K1
              clear K1
              go_wp2
              go_roundg (2 - (t + 1))
              case measure => (have := HG.out; omega)
              case rel => exact ⟨t + 1, by omega, rfl, by go_num, HK1.out⟩
    · obtain rfl : t = 2 := by omega
      have HKW := Lib.hid (HK0.out.trans K0 (by simp))
      have HKE := Lib.hid (HE1.out.kept K0)
      clear K0
      go_wp2_with (go_at_call 31; refine (HK.out _ HKW.out _ _ HKE.out).mono ?_; rintro e W ⟨rfl, K⟩)
      go_ret
      exact ⟨rfl, HKW.out.trans K (by simp)⟩
end
end Go.Proofs.Ytakmcpadkanggaa

/-
  Part 5 of what this claim rests on.
-/
import Derived.Laws.AppendOwnNone
import Derived.Shelf.Small.Bits
import Derived.Shelf.Small.Wraps
import Derived.Shelf.Strconv.Itoa0
import Derived.Shelf.Sort.Plain
import Derived.Shelf.Slices.Turned
import Derived.Ground.Names2Prog
import Derived.Shelf.Slices.Clone
import Derived.Shelf.Slices.CompactI
import Derived.Shelf.Slices.SearchI
import Derived.Shelf.Slices.Cells
import Derived.Shelf.Slices.In.SortNone
import Derived.Ground.SlgnProg
import Derived.Shelf.SlicesE.Clone
import Derived.Test.YtakmcpadkanggaaProg
import Derived.Test.YtakmcpadkanggaaOs4
namespace Go.Proofs.Ytakmcpadkanggaa
open Go.RowKit Go.Maps Go.Deep
section
variable {w : World} {S : Sys} {A : Option Addr} {c : Nat} {R : Option Addr} {d n : Nat} {E : Nat → Ev} {B : Option Addr} {cb : Nat}
set_option maxRecDepth 100000 in
set_option maxHeartbeats 4000000 in
theorem into_8 (hS : SysIn w S A c R d) (hE : EvsAt w B n E) (hn : n ≤ 40000) (hrm : ∀ q, q < S.nr → 1 ≤ S.rm q ∧ S.rm q ≤ 1000000) (j : Nat) (hj : j < n) (hok : okE S (stN E j) (E j) = true) (hop : (E j).op = 8) : Calls Try.prog 71 #[.agg (sysV S A c R d), .slice B n cb, .int .i64 (j : Int)] w (IntoPost w S E j) := by
  have O := Own.start w []
  have HE := Lib.hid hE
  have g1 : ((j : Nat) : Int) < n := by omega
  have g0 : (0 : Int) ≤ j := by omega
  obtain ⟨ad, rfl, hc⟩ := EvsAt.row (u := w) HE.out hj
  have HC := Lib.hid hc
  obtain ⟨e, he⟩ : ∃ e, e = E j := ⟨_, rfl⟩
  rw [← he] at hc HC hop
  have HEJ := Lib.hid he
  have HRO := Lib.hid hS.rooms
  have HRM := Lib.hid hrm
  have HOK := Lib.hid hok
  clear hc hE he hS hrm hok
  obtain ⟨who, op, a, v, sh⟩ := e
  have HOP := Lib.hid hop
  clear hop
  go_enter Try.func71, Try.ntmps71
  go_wp2_with (first
    | go_big_skip
    | (refine own_box 3 (sysV S A c R d) O rfl rfl rfl rfl ?_; clear O; intro W a3 O; simp only [Act.put, List.setIfInBounds_toArray, List.set_cons_zero, List.set_cons_succ])
    | (refine wpList_load_at 21 rfl rfl rfl rfl (HC.out [] _ O.keep (by simp)) Try.underlying37 rfl (by kernel_rfl) ?_; simp only [Act.put, List.setIfInBounds_toArray, List.set_cons_zero, List.set_cons_succ])
    | (refine own_alloc 7 (evC ⟨0, 0, 0, 0, false⟩) O rfl rfl rfl (fun _ => by kernel_rfl) ?_; clear O; intro W g7 O; simp only [Act.put, List.setIfInBounds_toArray, List.set_cons_zero, List.set_cons_succ])
    | (refine own_store_row 0 (.tmp 7) (.tmp 21) O rfl rfl rfl rfl rfl rfl (by kernel_rfl) (by rfl) (evC_cell _) ?_; clear O; intro W O; simp only [List.set_cons_zero] at O))
  go_loopg [9, 10, 11, 12] j (fun g s9 s10 s11 s12 wr => ∃ k, k ≤ j ∧ g = j - k ∧ s12 = .int .i64 (k : Int) ∧ s9 = .int .i64 (oI (lastN E who k)) ∧ s10 = .int .i64 (oI (bornN E who k)) ∧ s11 = .int .i64 ((pickL (samE E ⟨who, op, a, v, sh⟩) k).length : Int) ∧ Own w wr [] (LI S A c R d g7 a3 ⟨who, op, a, v, sh⟩))
  case atStart => exact ⟨0, by omega, by omega, rfl, rfl, rfl, rfl, O⟩
  case round =>
    obtain ⟨k, hk, hgk, rfl, rfl, rfl, rfl, O⟩ := hrel
    have HG := Lib.hid hgk
    clear hgk
    by_cases hlt : k < j
    · have g2 : ((k : Int)) < j := by omega
      have g3 : ((k : Int)) < n := by omega
      have g4 : (0 : Int) ≤ k := by omega
      obtain ⟨ad', e', hc⟩ := EvsAt.row (u := w) HE.out (show k < n by omega)
      cases e'
      obtain ⟨f, hf⟩ : ∃ f, f = E k := ⟨_, rfl⟩
      rw [← hf] at hc
      have HCK := Lib.hid hc
      have HLN := Lib.hid (show lastN E who (k + 1) = if f.who = who then some (k : Int) else lastN E who k by rw [hf]; rfl)
      have HBN := Lib.hid (show bornN E who (k + 1) = if f.op = 14 ∧ 0 < f.v ∧ f.v = who then some (k : Int) else bornN E who k by rw [hf]; rfl)
      have HSM := Lib.hid (show samE E ⟨who, op, a, v, sh⟩ k = ((((op == 5) && (f.op == 5)) || ((op == 6) && (!sh && ((f.op == 6) && !f.sh)))) && (f.a == a)) by rw [hf]; rfl)
      have HPL := Lib.hid (show (pickL (samE E ⟨who, op, a, v, sh⟩) (k + 1)).length = (pickL (samE E ⟨who, op, a, v, sh⟩) k).length + if samE E ⟨who, op, a, v, sh⟩ k then 1 else 0 by rw [pickL_succ, List.length_append]; split <;> rfl)
      have hpl := pickL_length (samE E ⟨who, op, a, v, sh⟩) k
      generalize samE E ⟨who, op, a, v, sh⟩ k = sm at HSM HPL
      generalize hnk : (pickL (samE E ⟨who, op, a, v, sh⟩) k).length = nk at hpl HPL ⊢
      clear hf hc hnk
      obtain ⟨lw, lo, la, lv, ls⟩ := f
      have c0 : ∀ p : Later wr, p.1.cell? (ad.add (k * 5)) = some (.int .i64 lw) := fun p => HCK.out [] _ (O.keep.trans p.2 (by simp)) (by simp) 0 (by show 0 < 5; omega)
      have c1 : ∀ p : Later wr, p.1.cell? ⟨(ad.add (k * 5)).block, (ad.add (k * 5)).off + 1, none⟩ = some (.int .i64 lo) := fun p => HCK.out [] _ (O.keep.trans p.2 (by simp)) (by simp) 1 (by show 1 < 5; omega)
      have c2 : ∀ p : Later wr, p.1.cell? ⟨(ad.add (k * 5)).block, (ad.add (k * 5)).off + 2, none⟩ = some (.int .i64 la) := fun p => HCK.out [] _ (O.keep.trans p.2 (by simp)) (by simp) 2 (by show 2 < 5; omega)
      have c3 : ∀ p : Later wr, p.1.cell? ⟨(ad.add (k * 5)).block, (ad.add (k * 5)).off + 3, none⟩ = some (.int .i64 lv) := fun p => HCK.out [] _ (O.keep.trans p.2 (by simp)) (by simp) 3 (by show 3 < 5; omega)
      have c4 : ∀ p : Later wr, p.1.cell? ⟨(ad.add (k * 5)).block, (ad.add (k * 5)).off + 4, none⟩ = some (.bool ls) := fun p => HCK.out [] _ (O.keep.trans p.2 (by simp)) (by simp) 4 (by show 4 < 5; omega)
      have c7 : ∀ (p : Later wr) (i : Nat), p.1.cell? ⟨g7, i, none⟩ = #[Value.int .i64 who, .int .i64 op, .int .i64 a, .int .i64 v, .bool sh][i]? := Later.cell (O.get 0 rfl)
      go_upto_region 9 with (fail)
      refine wp_quiet_later (by kernel_rfl) (by kernel_rfl) ?_
      repeat (first
        | go_big_quiet_skip
        | go_big_quiet_step (fail))
      refine wpQuiet_nil ?_
      intro _ hw
      obtain ⟨p', rfl⟩ := hw
      replace O := O.keeps p'.2
      clear c0 c1 c2 c3 c4 c7
      generalize p'.1 = W at O ⊢
      go_upto_if 34 with (fail)
      go_cut [9] (fun s9 wx => s9 = .int .i64 (oI (lastN E who (k + 1))) ∧ Own w wx [] (LI S A c R d g7 a3 ⟨who, op, a, v, sh⟩))
      case first =>
        by_cases h : lw = who
        · have e1 : (lw == who) = true := by simpa using h
          have HN := Lib.hid (HLN.out.trans (if_pos h))
          clear h
          go_wp2
          go_meet
          exact ⟨by rw [HN.out]; rfl, O⟩
        · have e1 : (lw == who) = false := by simpa using h
          have HN := Lib.hid (HLN.out.trans (if_neg h))
          clear h
          go_wp2
          go_meet
          exact ⟨by rw [HN.out], O⟩
      case rest =>
        obtain ⟨rfl, O⟩ := hcut
        clear HLN
        have c0 : ∀ p : Later wc, p.1.cell? (ad.add (k * 5)) = some (.int .i64 lw) := fun p => HCK.out [] _ (O.keep.trans p.2 (by simp)) (by simp) 0 (by show 0 < 5; omega)
        have c1 : ∀ p : Later wc, p.1.cell? ⟨(ad.add (k * 5)).block, (ad.add (k * 5)).off + 1, none⟩ = some (.int .i64 lo) := fun p => HCK.out [] _ (O.keep.trans p.2 (by simp)) (by simp) 1 (by show 1 < 5; omega)
        have c2 : ∀ p : Later wc, p.1.cell? ⟨(ad.add (k * 5)).block, (ad.add (k * 5)).off + 2, none⟩ = some (.int .i64 la) := fun p => HCK.out [] _ (O.keep.trans p.2 (by simp)) (by simp) 2 (by show 2 < 5; omega)
        have c3 : ∀ p : Later wc, p.1.cell? ⟨(ad.add (k * 5)).block, (ad.add (k * 5)).off + 3, none⟩ = some (.int .i64 lv) := fun p => HCK.out [] _ (O.keep.trans p.2 (by simp)) (by simp) 3 (by show 3 < 5; omega)
        have c4 : ∀ p : Later wc, p.1.cell? ⟨(ad.add (k * 5)).block, (ad.add (k * 5)).off + 4, none⟩ = some (.bool ls) := fun p => HCK.out [] _ (O.keep.trans p.2 (by simp)) (by simp) 4 (by show 4 < 5; omega)
        have c7 : ∀ (p : Later wc) (i : Nat), p.1.cell? ⟨g7, i, none⟩ = #[Value.int .i64 who, .int .i64 op, .int .i64 a, .int .i64 v, .bool sh][i]? := Later.cell (O.get 0 rfl)
        obtain ⟨bB, hbB⟩ : ∃ bB, bB = decide (lo = 14 ∧ 0 < lv ∧ lv = who) := ⟨_, rfl⟩
        have HBB := Lib.hid hbB
        clear hbB
        go_upto_region 11 with (fail)
        go_cut [56] (fun s wx => s = .bool bB ∧ Own w wx [] (LI S A c R d g7 a3 ⟨who, op, a, v, sh⟩))
        case first =>
          by_cases h1 : lo = 14
          · have qh1 : (lo == 14) = true := by simpa using h1
            by_cases h2 : lv = who
            · have qh2 : (lv == who) = true := by simpa using h2
              by_cases h3 : 0 < who
              · have qh3 : decide (0 < who) = true := decide_eq_true h3
                have HV := Lib.hid (show bB = true by rw [HBB.out]; simp [qh1, h1, qh2, h2, qh3, h3])
                clear h1 h2 h3
                refine wp_quiet_later (by kernel_rfl) (by kernel_rfl) ?_
                repeat (first
                  | go_big_quiet_skip
                  | go_big_quiet_step (fail))
                refine wpQuiet_nil ?_
                intro _ hw
                obtain ⟨p', rfl⟩ := hw
                replace O := O.keeps p'.2
                clear c0 c1 c2 c3 c4 c7 qh1 qh2 qh3
                generalize p'.1 = W at O ⊢
                go_wp2
                go_meet
                exact ⟨by rw [HV.out], O⟩
              · have qh3 : decide (0 < who) = false := decide_eq_false h3
                have HV := Lib.hid (show bB = false by rw [HBB.out]; simp [qh1, h1, qh2, h2, qh3, h3])
                clear h1 h2 h3
                refine wp_quiet_later (by kernel_rfl) (by kernel_rfl) ?_
                repeat (first
                  | go_big_quiet_skip
                  | go_big_quiet_step (fail))
                refine wpQuiet_nil ?_
                intro _ hw
                obtain ⟨p', rfl⟩ := hw
                replace O := O.keeps p'.2
                clear c0 c1 c2 c3 c4 c7 qh1 qh2 qh3
                generalize p'.1 = W at O ⊢
                go_wp2
                go_meet
                exact ⟨by rw [HV.out], O⟩
            · have qh2 : (lv == who) = false := by simpa using h2
              have HV := Lib.hid (show bB = false by rw [HBB.out]; simp [qh1, h1, qh2, h2])
              clear h1 h2
              refine wp_quiet_later (by kernel_rfl) (by kernel_rfl) ?_
              repeat (first
                | go_big_quiet_skip
                | go_big_quiet_step (fail))
              refine wpQuiet_nil ?_
              intro _ hw
              obtain ⟨p', rfl⟩ := hw
              replace O := O.keeps p'.2
              clear c0 c1 c2 c3 c4 c7 qh1 qh2
              generalize p'.1 = W at O ⊢
              go_wp2
              go_meet
              exact ⟨by rw [HV.out], O⟩
          · have qh1 : (lo == 14) = false := by simpa using h1
            have HV := Lib.hid (show bB = false by rw [HBB.out]; simp [qh1, h1])
            clear h1
            refine wp_quiet_later (by kernel_rfl) (by kernel_rfl) ?_
            repeat (first
              | go_big_quiet_skip
              | go_big_quiet_step (fail))
            refine wpQuiet_nil ?_
            intro _ hw
            obtain ⟨p', rfl⟩ := hw
            replace O := O.keeps p'.2
            clear c0 c1 c2 c3 c4 c7 qh1
            generalize p'.1 = W at O ⊢
            go_wp2
            go_meet
            exact ⟨by rw [HV.out], O⟩
        case rest =>
          obtain ⟨rfl, O⟩ := hcut
          clear c0 c1 c2 c3 c4 c7
          go_upto_if 56 with (fail)
          go_cut [10] (fun s10 wx => s10 = .int .i64 (oI (bornN E who (k + 1))) ∧ Own w wx [] (LI S A c R d g7 a3 ⟨who, op, a, v, sh⟩))
          case first =>
            cases bB with
            | true =>
              have HN := Lib.hid (HBN.out.trans (if_pos (of_decide_eq_true HBB.out.symm)))
              go_wp2
              go_meet
              exact ⟨by rw [HN.out]; rfl, O⟩
            | false =>
              have HN := Lib.hid (HBN.out.trans (if_neg (of_decide_eq_false HBB.out.symm)))
              go_wp2
              go_meet
              exact ⟨by rw [HN.out], O⟩
          case rest =>
            obtain ⟨rfl, O⟩ := hcut
            clear HBN HBB
            have c0 : ∀ p : Later wc, p.1.cell? (ad.add (k * 5)) = some (.int .i64 lw) := fun p => HCK.out [] _ (O.keep.trans p.2 (by simp)) (by simp) 0 (by show 0 < 5; omega)
            have c1 : ∀ p : Later wc, p.1.cell? ⟨(ad.add (k * 5)).block, (ad.add (k * 5)).off + 1, none⟩ = some (.int .i64 lo) := fun p => HCK.out [] _ (O.keep.trans p.2 (by simp)) (by simp) 1 (by show 1 < 5; omega)
            have c2 : ∀ p : Later wc, p.1.cell? ⟨(ad.add (k * 5)).block, (ad.add (k * 5)).off + 2, none⟩ = some (.int .i64 la) := fun p => HCK.out [] _ (O.keep.trans p.2 (by simp)) (by simp) 2 (by show 2 < 5; omega)
            have c3 : ∀ p : Later wc, p.1.cell? ⟨(ad.add (k * 5)).block, (ad.add (k * 5)).off + 3, none⟩ = some (.int .i64 lv) := fun p => HCK.out [] _ (O.keep.trans p.2 (by simp)) (by simp) 3 (by show 3 < 5; omega)
            have c4 : ∀ p : Later wc, p.1.cell? ⟨(ad.add (k * 5)).block, (ad.add (k * 5)).off + 4, none⟩ = some (.bool ls) := fun p => HCK.out [] _ (O.keep.trans p.2 (by simp)) (by simp) 4 (by show 4 < 5; omega)
            have c7 : ∀ (p : Later wc) (i : Nat), p.1.cell? ⟨g7, i, none⟩ = #[Value.int .i64 who, .int .i64 op, .int .i64 a, .int .i64 v, .bool sh][i]? := Later.cell (O.get 0 rfl)
            go_upto_region 13 with (fail)
            go_cut [104] (fun s wx => s = .bool sm ∧ Own w wx [] (LI S A c R d g7 a3 ⟨who, op, a, v, sh⟩))
            case first =>
              have q1 : (op == 5) = false := by have h := HOP.out; simpa using (show ¬ op = 5 by omega)
              have q3 : (op == 6) = false := by have h := HOP.out; simpa using (show ¬ op = 6 by omega)
              have HV := Lib.hid (show sm = false by rw [HSM.out]; simp [q1, q3])
              refine wp_quiet_later (by kernel_rfl) (by kernel_rfl) ?_
              repeat (first
                | go_big_quiet_skip
                | go_big_quiet_step (fail))
              refine wpQuiet_nil ?_
              intro _ hw
              obtain ⟨p', rfl⟩ := hw
              replace O := O.keeps p'.2
              clear c0 c1 c2 c3 c4 c7 q1 q3
              generalize p'.1 = W at O ⊢
              go_wp2
              go_meet
              exact ⟨by rw [HV.out], O⟩
            case rest =>
              obtain ⟨rfl, O⟩ := hcut
              clear c0 c1 c2 c3 c4 c7 HSM
              cases sm with
              | true =>
                go_wp2
                go_roundg (j - (k + 1))
                case measure => (have := HG.out; omega)
                case rel => exact ⟨k + 1, by omega, rfl, by go_num, rfl, rfl, by rw [HPL.out]; go_num, O⟩
              | false =>
                go_wp2
                go_roundg (j - (k + 1))
                case measure => (have := HG.out; omega)
                case rel => exact ⟨k + 1, by omega, rfl, by go_num, rfl, rfl, by rw [HPL.out]; rfl, O⟩
    · obtain rfl : k = j := by omega
      clear HG g1
      obtain ⟨x9, hx9⟩ : ∃ x, x = oI (lastN E who k) := ⟨_, rfl⟩
      obtain ⟨x10, hx10⟩ : ∃ x, x = oI (bornN E who k) := ⟨_, rfl⟩
      obtain ⟨nk, hnk⟩ : ∃ x, x = (pickL (samE E ⟨who, op, a, v, sh⟩) k).length := ⟨_, rfl⟩
      rw [← hx9, ← hx10, ← hnk]
      have HNK := Lib.hid hnk
      have HX9 := Lib.hid hx9
      have HX10 := Lib.hid hx10
      have hnkk : nk ≤ k := by rw [hnk]; exact pickL_length _ _
      clear hx9 hx10 hnk
      go_upto_if 108 with (fail)
      go_cut [8] (fun s8 wx => Own w wx [] (LI S A c R d g7 a3 ⟨who, op, a, v, sh⟩) ∧ Mint w.heap.size wx s8 (ownL (lkN E k) who))
      case first =>
        have M := Mint.nil w.heap.size wr
        cases hl : lastN E who k with
        | some i =>
          have HO := Lib.hid (show ownL (lkN E k) who = [] ++ [x9] by rw [ownL_lk, hl, HX9.out, hl]; rfl)
          have q1 : (0 : Int) ≤ x9 := by rw [HX9.out, hl]; exact (lastN_lt hl).1
          clear hl
          go_wp2_with (first
            | (refine own_lit1 111 (x9) O rfl rfl rfl rfl ?_; clear O; intro W gl O K1 _; replace M := M.keeps K1 (by simp); clear K1; simp only [Act.put, List.setIfInBounds_toArray, List.set_cons_zero, List.set_cons_succ])
            | (at_builtin; refine own_app w.heap.size _ ([]) (x9) gl (.tmp 109) (.tmp 111) (O.drop_ 1) M rfl rfl rfl rfl ((O.get 0 rfl).cell 0) rfl (by simp [LI]) (by simp) ?_; clear O M; intro v1 W O M; simp only [List.drop] at O; simp only [Act.put, List.setIfInBounds_toArray, List.set_cons_zero, List.set_cons_succ]))
          go_meet
          exact ⟨O, by rw [HO.out]; exact M⟩
        | none =>
          have q1 : ¬ (0 : Int) ≤ x9 := by rw [HX9.out, hl]; decide
          cases hb : bornN E who k with
          | some i =>
            have HO := Lib.hid (show ownL (lkN E k) who = [] ++ [x10] by rw [ownL_lk, hl, hb, HX10.out, hb]; rfl)
            have q2 : (0 : Int) ≤ x10 := by rw [HX10.out, hb]; exact (bornN_lt hb).1
            clear hl hb
            go_wp2_with (first
              | (refine own_lit1 117 (x10) O rfl rfl rfl rfl ?_; clear O; intro W gl O K1 _; replace M := M.keeps K1 (by simp); clear K1; simp only [Act.put, List.setIfInBounds_toArray, List.set_cons_zero, List.set_cons_succ])
              | (at_builtin; refine own_app w.heap.size _ ([]) (x10) gl (.tmp 115) (.tmp 117) (O.drop_ 1) M rfl rfl rfl rfl ((O.get 0 rfl).cell 0) rfl (by simp [LI]) (by simp) ?_; clear O M; intro v1 W O M; simp only [List.drop] at O; simp only [Act.put, List.setIfInBounds_toArray, List.set_cons_zero, List.set_cons_succ]))
            go_meet
            exact ⟨O, by rw [HO.out]; exact M⟩
          | none =>
            have HO := Lib.hid (show ownL (lkN E k) who = [] by rw [ownL_lk, hl, hb])
            have q2 : ¬ (0 : Int) ≤ x10 := by rw [HX10.out, hb]; decide
            clear hl hb
            go_wp2
            go_meet
            exact ⟨O, by rw [HO.out]; exact M⟩
      case rest =>
        obtain ⟨O, M⟩ := hcut
        have HOL := Lib.hid (show (ownL (lkN E k) who).length ≤ 1 by rw [ownL_lk]; split <;> (try split) <;> simp)
        clear HX9 HX10
        by_cases o6 : op = 6
        · exfalso
          have := HOP.out
          omega
        · by_cases o5 : op = 5
          · exfalso
            have := HOP.out
            omega
          · by_cases o8 : op = 8
            · subst o8
              have c7 : ∀ i : Nat, (wc).cell? ⟨g7, i, none⟩ = #[Value.int .i64 who, .int .i64 8, .int .i64 a, .int .i64 v, .bool sh][i]? := (O.get 0 rfl).cell
              go_wp2
              clear c7
              go_loopg [14, 15] k (fun g s14 s15 wr => ∃ m, m ≤ k ∧ g = k - m ∧ s15 = .int .i64 (m : Int) ∧ s14 = .int .i64 (aftN E a m : Int) ∧ Own w wr [] (LI S A c R d g7 a3 ⟨who, 8, a, v, sh⟩) ∧ Mint w.heap.size wr u8 (ownL (lkN E k) who))
              case atStart => exact ⟨0, by omega, by omega, rfl, rfl, O, M⟩
              case round =>
                obtain ⟨m, hm, hgk, rfl, rfl, O, M⟩ := hrel
                have HG := Lib.hid hgk
                clear hgk
                by_cases hlt : m < k
                · have g2 : ((m : Int)) < k := by omega
                  have g3 : ((m : Int)) < n := by omega
                  have g4 : (0 : Int) ≤ m := by omega
                  obtain ⟨ad', e', hc⟩ := EvsAt.row (u := w) HE.out (show m < n by omega)
                  cases e'
                  obtain ⟨f, hf⟩ : ∃ f, f = E m := ⟨_, rfl⟩
                  rw [← hf] at hc
                  have HCK := Lib.hid hc
                  have HFM := Lib.hid hf
                  clear hf hc
                  obtain ⟨lw, lo, la, lv, ls⟩ := f
                  have c1 : ∀ p : Later wr, p.1.cell? ⟨(ad.add (m * 5)).block, (ad.add (m * 5)).off + 1, none⟩ = some (.int .i64 lo) := fun p => HCK.out [] _ (O.keep.trans p.2 (by simp)) (by simp) 1 (by show 1 < 5; omega)
                  have c2 : ∀ p : Later wr, p.1.cell? ⟨(ad.add (m * 5)).block, (ad.add (m * 5)).off + 2, none⟩ = some (.int .i64 la) := fun p => HCK.out [] _ (O.keep.trans p.2 (by simp)) (by simp) 2 (by show 2 < 5; omega)
                  have c7 : ∀ (p : Later wr) (i : Nat), p.1.cell? ⟨g7, i, none⟩ = #[Value.int .i64 who, .int .i64 8, .int .i64 a, .int .i64 v, .bool sh][i]? := Later.cell (O.get 0 rfl)
                  by_cases h1 : lo = 8
                  · have q1 : (lo == 8) = true := by simpa using h1
                    by_cases h2 : la = a
                    · have q2 : (la == a) = true := by simpa using h2
                      have HY := Lib.hid (And.intro h1 h2)
                      clear h1 h2
                      go_wp2
                      refine wp_quiet_later (by kernel_rfl) (by kernel_rfl) ?_
                      repeat (first
                        | go_big_quiet_skip
                        | go_big_quiet_step (fail))
                      refine wpQuiet_nil ?_
                      intro _ hw
                      obtain ⟨p', rfl⟩ := hw
                      replace O := O.keeps p'.2
                      replace M := M.keeps p'.2 (by simp)
                      clear c1 c2 c7
                      generalize p'.1 = W at O M ⊢
                      clear q1 q2
                      go_wp2
                      go_roundg (k - (m + 1))
                      case measure => (have := HG.out; omega)
                      case rel => exact ⟨m + 1, by omega, rfl, by go_num, (by rw [aftN, if_pos (by rw [← HFM.out]; exact HY.out)]), O, M⟩
                    · have q2 : (la == a) = false := by simpa using h2
                      have HN := Lib.hid (show ¬ (lo = 8 ∧ la = a) from fun q => h2 q.2)
                      clear h1 h2
                      go_wp2
                      refine wp_quiet_later (by kernel_rfl) (by kernel_rfl) ?_
                      repeat (first
                        | go_big_quiet_skip
                        | go_big_quiet_step (fail))
                      refine wpQuiet_nil ?_
                      intro _ hw
                      obtain ⟨p', rfl⟩ := hw
                      replace O := O.keeps p'.2
                      replace M := M.keeps p'.2 (by simp)
                      clear c1 c2 c7
                      generalize p'.1 = W at O M ⊢
                      clear q1
                      go_wp2
                      go_roundg (k - (m + 1))
                      case measure => (have := HG.out; omega)
                      case rel => exact ⟨m + 1, by omega, rfl, by go_num, (by rw [aftN, if_neg (by rw [← HFM.out]; exact HN.out)]), O, M⟩
                  · have q1 : (lo == 8) = false := by simpa using h1
                    have HN := Lib.hid (show ¬ (lo = 8 ∧ la = a) from fun q => h1 q.1)
                    clear h1
                    go_wp2
                    refine wp_quiet_later (by kernel_rfl) (by kernel_rfl) ?_
                    repeat (first
                      | go_big_quiet_skip
                      | go_big_quiet_step (fail))
                    refine wpQuiet_nil ?_
                    intro _ hw
                    obtain ⟨p', rfl⟩ := hw
                    replace O := O.keeps p'.2
                    replace M := M.keeps p'.2 (by simp)
                    clear c1 c2 c7
                    generalize p'.1 = W at O M ⊢
                    clear q1
                    go_wp2
                    go_roundg (k - (m + 1))
                    case measure => (have := HG.out; omega)
                    case rel => exact ⟨m + 1, by omega, rfl, by go_num, (by rw [aftN, if_neg (by rw [← HFM.out]; exact HN.out)]), O, M⟩
                · obtain rfl : k = m := by omega
                  obtain ⟨af, haf⟩ : ∃ af, af = aftN E a k := ⟨_, rfl⟩
                  have hafl : af ≤ k := by rw [haf]; exact aftN_le E a k
                  rw [← haf]
                  have HAF := Lib.hid haf
                  clear haf HG
                  go_wp2
                  go_loopg [8, 16] (k - af) (fun g s8 s16 wr => ∃ m, m ≤ k ∧ g = k - m ∧ s16 = .int .i64 (m : Int) ∧ af ≤ m ∧ Own w wr [] (LI S A c R d g7 a3 ⟨who, 8, a, v, sh⟩) ∧ Mint w.heap.size wr s8 ((ownL (lkN E k) who) ++ natL (freeL E a af m)))
                  case atStart => exact ⟨af, hafl, by omega, rfl, by omega, O, by rw [freeL_none E a af af (Nat.le_refl _), show natL [] = [] from rfl, List.append_nil]; exact M⟩
                  case round =>
                    obtain ⟨m, hm, hgk, rfl, haf, O, M⟩ := hrel
                    have HG := Lib.hid hgk
                    clear hgk
                    by_cases hlt : m < k
                    · have g2 : ((m : Int)) < k := by omega
                      have g3 : ((m : Int)) < n := by omega
                      have g4 : (0 : Int) ≤ m := by omega
                      obtain ⟨ad', e', hc⟩ := EvsAt.row (u := w) HE.out (show m < n by omega)
                      cases e'
                      obtain ⟨f, hf⟩ : ∃ f, f = E m := ⟨_, rfl⟩
                      rw [← hf] at hc
                      have HCK := Lib.hid hc
                      have HFM := Lib.hid hf
                      clear hf hc
                      obtain ⟨lw, lo, la, lv, ls⟩ := f
                      have c1 : ∀ p : Later wr, p.1.cell? ⟨(ad.add (m * 5)).block, (ad.add (m * 5)).off + 1, none⟩ = some (.int .i64 lo) := fun p => HCK.out [] _ (O.keep.trans p.2 (by simp)) (by simp) 1 (by show 1 < 5; omega)
                      have c2 : ∀ p : Later wr, p.1.cell? ⟨(ad.add (m * 5)).block, (ad.add (m * 5)).off + 2, none⟩ = some (.int .i64 la) := fun p => HCK.out [] _ (O.keep.trans p.2 (by simp)) (by simp) 2 (by show 2 < 5; omega)
                      have c7 : ∀ (p : Later wr) (i : Nat), p.1.cell? ⟨g7, i, none⟩ = #[Value.int .i64 who, .int .i64 8, .int .i64 a, .int .i64 v, .bool sh][i]? := Later.cell (O.get 0 rfl)
                      by_cases h1 : lo = 9
                      · have q1 : (lo == 9) = true := by simpa using h1
                        by_cases h2 : la = a
                        · have q2 : (la == a) = true := by simpa using h2
                          have HY := Lib.hid (And.intro h1 h2)
                          clear h1 h2
                          go_wp2
                          refine wp_quiet_later (by kernel_rfl) (by kernel_rfl) ?_
                          repeat (first
                            | go_big_quiet_skip
                            | go_big_quiet_step (fail))
                          refine wpQuiet_nil ?_
                          intro _ hw
                          obtain ⟨p', rfl⟩ := hw
                          replace O := O.keeps p'.2
                          replace M := M.keeps p'.2 (by simp)
                          clear c1 c2 c7
                          generalize p'.1 = W at O M ⊢
                          clear q1 q2
                          have HFL := Lib.hid (freeL_len (E := E) a af m)
                          go_wp2_with (first
                            | (refine own_lit1 245 ((m : Int)) O rfl rfl rfl rfl ?_; clear O; intro W gl O K1 _; replace M := M.keeps K1 (by simp); clear K1; simp only [Act.put, List.setIfInBounds_toArray, List.set_cons_zero, List.set_cons_succ])
                            | (at_builtin; refine own_app w.heap.size _ ((ownL (lkN E k) who) ++ natL (freeL E a af m)) ((m : Int)) gl (.tmp 243) (.tmp 245) (O.drop_ 1) M rfl rfl rfl rfl ((O.get 0 rfl).cell 0) rfl (by simp [LI]) (by have := HOL.out; have := HFL.out; rw [List.length_append, natL_length]; omega) ?_; clear O M; intro v1 W O M; simp only [List.drop] at O; simp only [Act.put, List.setIfInBounds_toArray, List.set_cons_zero, List.set_cons_succ]))
                          go_roundg (k - (m + 1))
                          case measure => (have := HG.out; omega)
                          case rel => exact ⟨m + 1, by omega, rfl, by go_num, by omega, O, (by rw [freeL_succ, if_pos (by simp [isFree]; rw [← HFM.out]; exact ⟨HY.out, haf⟩), natL_append, ← List.append_assoc]; exact M)⟩
                        · have q2 : (la == a) = false := by simpa using h2
                          have HN := Lib.hid (show ¬ (lo = 9 ∧ la = a) from fun q => h2 q.2)
                          clear h1 h2
                          go_wp2
                          refine wp_quiet_later (by kernel_rfl) (by kernel_rfl) ?_
                          repeat (first
                            | go_big_quiet_skip
                            | go_big_quiet_step (fail))
                          refine wpQuiet_nil ?_
                          intro _ hw
                          obtain ⟨p', rfl⟩ := hw
                          replace O := O.keeps p'.2
                          replace M := M.keeps p'.2 (by simp)
                          clear c1 c2 c7
                          generalize p'.1 = W at O M ⊢
                          clear q1
                          go_wp2
                          go_roundg (k - (m + 1))
                          case measure => (have := HG.out; omega)
                          case rel => exact ⟨m + 1, by omega, rfl, by go_num, by omega, O, (by rw [freeL_succ, if_neg (by simp [isFree]; rw [← HFM.out]; intro q1 q2; exact absurd ⟨q1, q2⟩ HN.out), List.append_nil]; exact M)⟩
                      · have q1 : (lo == 9) = false := by simpa using h1
                        have HN := Lib.hid (show ¬ (lo = 9 ∧ la = a) from fun q => h1 q.1)
                        clear h1
                        go_wp2
                        refine wp_quiet_later (by kernel_rfl) (by kernel_rfl) ?_
                        repeat (first
                          | go_big_quiet_skip
                          | go_big_quiet_step (fail))
                        refine wpQuiet_nil ?_
                        intro _ hw
                        obtain ⟨p', rfl⟩ := hw
                        replace O := O.keeps p'.2
                        replace M := M.keeps p'.2 (by simp)
                        clear c1 c2 c7
                        generalize p'.1 = W at O M ⊢
                        clear q1
                        go_wp2
                        go_roundg (k - (m + 1))
                        case measure => (have := HG.out; omega)
                        case rel => exact ⟨m + 1, by omega, rfl, by go_num, by omega, O, (by rw [freeL_succ, if_neg (by simp [isFree]; rw [← HFM.out]; intro q1 q2; exact absurd ⟨q1, q2⟩ HN.out), List.append_nil]; exact M)⟩
                    · obtain rfl : k = m := by omega
                      have HRF := Lib.hid (show refM E (rmS S) k ⟨who, 8, a, v, sh⟩ = natL (freeL E a af k) by rw [HAF.out]; rfl)
                      have HFL := Lib.hid (freeL_len (E := E) a af k)
                      have HXL := Lib.hid (show ((ownL (lkN E k) who) ++ natL (freeL E a af k)).length ≤ 1000000 by have := HOL.out; have := HFL.out; rw [List.length_append, natL_length]; omega)
                      go_wp2_with (go_at_call 98; refine (rising_any _ ((ownL (lkN E k) who) ++ natL (freeL E a af k)) HXL.out M.list).mono ?_; rintro e W ⟨⟨r, ys, rfl, MR, HR⟩, K⟩)
                      go_ret
                      refine ⟨⟨_, rfl, mint_low (b := w.heap.size) ?_ O.keep.size⟩, O.keep.trans K (by simp)⟩
                      have hfin := into_rose (E := E) (rm := rmS S) (j := k) (ys := ys) (by rw [← HEJ.out]; rw [show refM E (rmS S) k _ = _ from HRF.out]; exact HR) (fun h6 hs => ok_take HOK.out h6 hs) (fun h6 hs => ok_shut HOK.out h6 hs)
                      rw [← hfin]
                      exact MR
            · by_cases o11 : op = 11
              · exfalso
                have := HOP.out
                omega
              · exfalso
                have := HOP.out
                omega
end
end Go.Proofs.Ytakmcpadkanggaa
namespace Go.Proofs.Ytakmcpadkanggaa
open Go.RowKit Go.Maps Go.Deep
section
variable {w : World} {S : Sys} {A : Option Addr} {c : Nat} {R : Option Addr} {d n : Nat} {E : Nat → Ev} {B : Option Addr} {cb : Nat}
set_option maxRecDepth 100000 in
set_option maxHeartbeats 4000000 in
theorem into_o (hS : SysIn w S A c R d) (hE : EvsAt w B n E) (hn : n ≤ 40000) (hrm : ∀ q, q < S.nr → 1 ≤ S.rm q ∧ S.rm q ≤ 1000000) (j : Nat) (hj : j < n) (hok : okE S (stN E j) (E j) = true) (hop : (E j).op ≠ 6 ∧ (E j).op ≠ 5 ∧ (E j).op ≠ 8 ∧ (E j).op ≠ 11) : Calls Try.prog 71 #[.agg (sysV S A c R d), .slice B n cb, .int .i64 (j : Int)] w (IntoPost w S E j) := by
  have O := Own.start w []
  have HE := Lib.hid hE
  have g1 : ((j : Nat) : Int) < n := by omega
  have g0 : (0 : Int) ≤ j := by omega
  obtain ⟨ad, rfl, hc⟩ := EvsAt.row (u := w) HE.out hj
  have HC := Lib.hid hc
  obtain ⟨e, he⟩ : ∃ e, e = E j := ⟨_, rfl⟩
  rw [← he] at hc HC hop
  have HEJ := Lib.hid he
  have HRO := Lib.hid hS.rooms
  have HRM := Lib.hid hrm
  have HOK := Lib.hid hok
  clear hc hE he hS hrm hok
  obtain ⟨who, op, a, v, sh⟩ := e
  have HOP := Lib.hid hop
  clear hop
  go_enter Try.func71, Try.ntmps71
  go_wp2_with (first
    | go_big_skip
    | (refine own_box 3 (sysV S A c R d) O rfl rfl rfl rfl ?_; clear O; intro W a3 O; simp only [Act.put, List.setIfInBounds_toArray, List.set_cons_zero, List.set_cons_succ])
    | (refine wpList_load_at 21 rfl rfl rfl rfl (HC.out [] _ O.keep (by simp)) Try.underlying37 rfl (by kernel_rfl) ?_; simp only [Act.put, List.setIfInBounds_toArray, List.set_cons_zero, List.set_cons_succ])
    | (refine own_alloc 7 (evC ⟨0, 0, 0, 0, false⟩) O rfl rfl rfl (fun _ => by kernel_rfl) ?_; clear O; intro W g7 O; simp only [Act.put, List.setIfInBounds_toArray, List.set_cons_zero, List.set_cons_succ])
    | (refine own_store_row 0 (.tmp 7) (.tmp 21) O rfl rfl rfl rfl rfl rfl (by kernel_rfl) (by rfl) (evC_cell _) ?_; clear O; intro W O; simp only [List.set_cons_zero] at O))
  go_loopg [9, 10, 11, 12] j (fun g s9 s10 s11 s12 wr => ∃ k, k ≤ j ∧ g = j - k ∧ s12 = .int .i64 (k : Int) ∧ s9 = .int .i64 (oI (lastN E who k)) ∧ s10 = .int .i64 (oI (bornN E who k)) ∧ s11 = .int .i64 ((pickL (samE E ⟨who, op, a, v, sh⟩) k).length : Int) ∧ Own w wr [] (LI S A c R d g7 a3 ⟨who, op, a, v, sh⟩))
  case atStart => exact ⟨0, by omega, by omega, rfl, rfl, rfl, rfl, O⟩
  case round =>
    obtain ⟨k, hk, hgk, rfl, rfl, rfl, rfl, O⟩ := hrel
    have HG := Lib.hid hgk
    clear hgk
    by_cases hlt : k < j
    · have g2 : ((k : Int)) < j := by omega
      have g3 : ((k : Int)) < n := by omega
      have g4 : (0 : Int) ≤ k := by omega
      obtain ⟨ad', e', hc⟩ := EvsAt.row (u := w) HE.out (show k < n by omega)
      cases e'
      obtain ⟨f, hf⟩ : ∃ f, f = E k := ⟨_, rfl⟩
      rw [← hf] at hc
      have HCK := Lib.hid hc
      have HLN := Lib.hid (show lastN E who (k + 1) = if f.who = who then some (k : Int) else lastN E who k by rw [hf]; rfl)
      have HBN := Lib.hid (show bornN E who (k + 1) = if f.op = 14 ∧ 0 < f.v ∧ f.v = who then some (k : Int) else bornN E who k by rw [hf]; rfl)
      have HSM := Lib.hid (show samE E ⟨who, op, a, v, sh⟩ k = ((((op == 5) && (f.op == 5)) || ((op == 6) && (!sh && ((f.op == 6) && !f.sh)))) && (f.a == a)) by rw [hf]; rfl)
      have HPL := Lib.hid (show (pickL (samE E ⟨who, op, a, v, sh⟩) (k + 1)).length = (pickL (samE E ⟨who, op, a, v, sh⟩) k).length + if samE E ⟨who, op, a, v, sh⟩ k then 1 else 0 by rw [pickL_succ, List.length_append]; split <;> rfl)
      have hpl := pickL_length (samE E ⟨who, op, a, v, sh⟩) k
      generalize samE E ⟨who, op, a, v, sh⟩ k = sm at HSM HPL
      generalize hnk : (pickL (samE E ⟨who, op, a, v, sh⟩) k).length = nk at hpl HPL ⊢
      clear hf hc hnk
      obtain ⟨lw, lo, la, lv, ls⟩ := f
      have c0 : ∀ p : Later wr, p.1.cell? (ad.add (k * 5)) = some (.int .i64 lw) := fun p => HCK.out [] _ (O.keep.trans p.2 (by simp)) (by simp) 0 (by show 0 < 5; omega)
      have c1 : ∀ p : Later wr, p.1.cell? ⟨(ad.add (k * 5)).block, (ad.add (k * 5)).off + 1, none⟩ = some (.int .i64 lo) := fun p => HCK.out [] _ (O.keep.trans p.2 (by simp)) (by simp) 1 (by show 1 < 5; omega)
      have c2 : ∀ p : Later wr, p.1.cell? ⟨(ad.add (k * 5)).block, (ad.add (k * 5)).off + 2, none⟩ = some (.int .i64 la) := fun p => HCK.out [] _ (O.keep.trans p.2 (by simp)) (by simp) 2 (by show 2 < 5; omega)
      have c3 : ∀ p : Later wr, p.1.cell? ⟨(ad.add (k * 5)).block, (ad.add (k * 5)).off + 3, none⟩ = some (.int .i64 lv) := fun p => HCK.out [] _ (O.keep.trans p.2 (by simp)) (by simp) 3 (by show 3 < 5; omega)
      have c4 : ∀ p : Later wr, p.1.cell? ⟨(ad.add (k * 5)).block, (ad.add (k * 5)).off + 4, none⟩ = some (.bool ls) := fun p => HCK.out [] _ (O.keep.trans p.2 (by simp)) (by simp) 4 (by show 4 < 5; omega)
      have c7 : ∀ (p : Later wr) (i : Nat), p.1.cell? ⟨g7, i, none⟩ = #[Value.int .i64 who, .int .i64 op, .int .i64 a, .int .i64 v, .bool sh][i]? := Later.cell (O.get 0 rfl)
      go_upto_region 9 with (fail)
      refine wp_quiet_later (by kernel_rfl) (by kernel_rfl) ?_
      repeat (first
        | go_big_quiet_skip
        | go_big_quiet_step (fail))
      refine wpQuiet_nil ?_
      intro _ hw
      obtain ⟨p', rfl⟩ := hw
      replace O := O.keeps p'.2
      clear c0 c1 c2 c3 c4 c7
      generalize p'.1 = W at O ⊢
      go_upto_if 34 with (fail)
      go_cut [9] (fun s9 wx => s9 = .int .i64 (oI (lastN E who (k + 1))) ∧ Own w wx [] (LI S A c R d g7 a3 ⟨who, op, a, v, sh⟩))
      case first =>
        by_cases h : lw = who
        · have e1 : (lw == who) = true := by simpa using h
          have HN := Lib.hid (HLN.out.trans (if_pos h))
          clear h
          go_wp2
          go_meet
          exact ⟨by rw [HN.out]; rfl, O⟩
        · have e1 : (lw == who) = false := by simpa using h
          have HN := Lib.hid (HLN.out.trans (if_neg h))
          clear h
          go_wp2
          go_meet
          exact ⟨by rw [HN.out], O⟩
      case rest =>
        obtain ⟨rfl, O⟩ := hcut
        clear HLN
        have c0 : ∀ p : Later wc, p.1.cell? (ad.add (k * 5)) = some (.int .i64 lw) := fun p => HCK.out [] _ (O.keep.trans p.2 (by simp)) (by simp) 0 (by show 0 < 5; omega)
        have c1 : ∀ p : Later wc, p.1.cell? ⟨(ad.add (k * 5)).block, (ad.add (k * 5)).off + 1, none⟩ = some (.int .i64 lo) := fun p => HCK.out [] _ (O.keep.trans p.2 (by simp)) (by simp) 1 (by show 1 < 5; omega)
        have c2 : ∀ p : Later wc, p.1.cell? ⟨(ad.add (k * 5)).block, (ad.add (k * 5)).off + 2, none⟩ = some (.int .i64 la) := fun p => HCK.out [] _ (O.keep.trans p.2 (by simp)) (by simp) 2 (by show 2 < 5; omega)
        have c3 : ∀ p : Later wc, p.1.cell? ⟨(ad.add (k * 5)).block, (ad.add (k * 5)).off + 3, none⟩ = some (.int .i64 lv) := fun p => HCK.out [] _ (O.keep.trans p.2 (by simp)) (by simp) 3 (by show 3 < 5; omega)
        have c4 : ∀ p : Later wc, p.1.cell? ⟨(ad.add (k * 5)).block, (ad.add (k * 5)).off + 4, none⟩ = some (.bool ls) := fun p => HCK.out [] _ (O.keep.trans p.2 (by simp)) (by simp) 4 (by show 4 < 5; omega)
        have c7 : ∀ (p : Later wc) (i : Nat), p.1.cell? ⟨g7, i, none⟩ = #[Value.int .i64 who, .int .i64 op, .int .i64 a, .int .i64 v, .bool sh][i]? := Later.cell (O.get 0 rfl)
        obtain ⟨bB, hbB⟩ : ∃ bB, bB = decide (lo = 14 ∧ 0 < lv ∧ lv = who) := ⟨_, rfl⟩
        have HBB := Lib.hid hbB
        clear hbB
        go_upto_region 11 with (fail)
        go_cut [56] (fun s wx => s = .bool bB ∧ Own w wx [] (LI S A c R d g7 a3 ⟨who, op, a, v, sh⟩))
        case first =>
          by_cases h1 : lo = 14
          · have qh1 : (lo == 14) = true := by simpa using h1
            by_cases h2 : lv = who
            · have qh2 : (lv == who) = true := by simpa using h2
              by_cases h3 : 0 < who
              · have qh3 : decide (0 < who) = true := decide_eq_true h3
                have HV := Lib.hid (show bB = true by rw [HBB.out]; simp [qh1, h1, qh2, h2, qh3, h3])
                clear h1 h2 h3
                refine wp_quiet_later (by kernel_rfl) (by kernel_rfl) ?_
                repeat (first
                  | go_big_quiet_skip
                  | go_big_quiet_step (fail))
                refine wpQuiet_nil ?_
                intro _ hw
                obtain ⟨p', rfl⟩ := hw
                replace O := O.keeps p'.2
                clear c0 c1 c2 c3 c4 c7 qh1 qh2 qh3
                generalize p'.1 = W at O ⊢
                go_wp2
                go_meet
                exact ⟨by rw [HV.out], O⟩
              · have qh3 : decide (0 < who) = false := decide_eq_false h3
                have HV := Lib.hid (show bB = false by rw [HBB.out]; simp [qh1, h1, qh2, h2, qh3, h3])
                clear h1 h2 h3
                refine wp_quiet_later (by kernel_rfl) (by kernel_rfl) ?_
                repeat (first
                  | go_big_quiet_skip
                  | go_big_quiet_step (fail))
                refine wpQuiet_nil ?_
                intro _ hw
                obtain ⟨p', rfl⟩ := hw
                replace O := O.keeps p'.2
                clear c0 c1 c2 c3 c4 c7 qh1 qh2 qh3
                generalize p'.1 = W at O ⊢
                go_wp2
                go_meet
                exact ⟨by rw [HV.out], O⟩
            · have qh2 : (lv == who) = false := by simpa using h2
              have HV := Lib.hid (show bB = false by rw [HBB.out]; simp [qh1, h1, qh2, h2])
              clear h1 h2
              refine wp_quiet_later (by kernel_rfl) (by kernel_rfl) ?_
              repeat (first
                | go_big_quiet_skip
                | go_big_quiet_step (fail))
              refine wpQuiet_nil ?_
              intro _ hw
              obtain ⟨p', rfl⟩ := hw
              replace O := O.keeps p'.2
              clear c0 c1 c2 c3 c4 c7 qh1 qh2
              generalize p'.1 = W at O ⊢
              go_wp2
              go_meet
              exact ⟨by rw [HV.out], O⟩
          · have qh1 : (lo == 14) = false := by simpa using h1
            have HV := Lib.hid (show bB = false by rw [HBB.out]; simp [qh1, h1])
            clear h1
            refine wp_quiet_later (by kernel_rfl) (by kernel_rfl) ?_
            repeat (first
              | go_big_quiet_skip
              | go_big_quiet_step (fail))
            refine wpQuiet_nil ?_
            intro _ hw
            obtain ⟨p', rfl⟩ := hw
            replace O := O.keeps p'.2
            clear c0 c1 c2 c3 c4 c7 qh1
            generalize p'.1 = W at O ⊢
            go_wp2
            go_meet
            exact ⟨by rw [HV.out], O⟩
        case rest =>
          obtain ⟨rfl, O⟩ := hcut
          clear c0 c1 c2 c3 c4 c7
          go_upto_if 56 with (fail)
          go_cut [10] (fun s10 wx => s10 = .int .i64 (oI (bornN E who (k + 1))) ∧ Own w wx [] (LI S A c R d g7 a3 ⟨who, op, a, v, sh⟩))
          case first =>
            cases bB with
            | true =>
              have HN := Lib.hid (HBN.out.trans (if_pos (of_decide_eq_true HBB.out.symm)))
              go_wp2
              go_meet
              exact ⟨by rw [HN.out]; rfl, O⟩
            | false =>
              have HN := Lib.hid (HBN.out.trans (if_neg (of_decide_eq_false HBB.out.symm)))
              go_wp2
              go_meet
              exact ⟨by rw [HN.out], O⟩
          case rest =>
            obtain ⟨rfl, O⟩ := hcut
            clear HBN HBB
            have c0 : ∀ p : Later wc, p.1.cell? (ad.add (k * 5)) = some (.int .i64 lw) := fun p => HCK.out [] _ (O.keep.trans p.2 (by simp)) (by simp) 0 (by show 0 < 5; omega)
            have c1 : ∀ p : Later wc, p.1.cell? ⟨(ad.add (k * 5)).block, (ad.add (k * 5)).off + 1, none⟩ = some (.int .i64 lo) := fun p => HCK.out [] _ (O.keep.trans p.2 (by simp)) (by simp) 1 (by show 1 < 5; omega)
            have c2 : ∀ p : Later wc, p.1.cell? ⟨(ad.add (k * 5)).block, (ad.add (k * 5)).off + 2, none⟩ = some (.int .i64 la) := fun p => HCK.out [] _ (O.keep.trans p.2 (by simp)) (by simp) 2 (by show 2 < 5; omega)
            have c3 : ∀ p : Later wc, p.1.cell? ⟨(ad.add (k * 5)).block, (ad.add (k * 5)).off + 3, none⟩ = some (.int .i64 lv) := fun p => HCK.out [] _ (O.keep.trans p.2 (by simp)) (by simp) 3 (by show 3 < 5; omega)
            have c4 : ∀ p : Later wc, p.1.cell? ⟨(ad.add (k * 5)).block, (ad.add (k * 5)).off + 4, none⟩ = some (.bool ls) := fun p => HCK.out [] _ (O.keep.trans p.2 (by simp)) (by simp) 4 (by show 4 < 5; omega)
            have c7 : ∀ (p : Later wc) (i : Nat), p.1.cell? ⟨g7, i, none⟩ = #[Value.int .i64 who, .int .i64 op, .int .i64 a, .int .i64 v, .bool sh][i]? := Later.cell (O.get 0 rfl)
            go_upto_region 13 with (fail)
            go_cut [104] (fun s wx => s = .bool sm ∧ Own w wx [] (LI S A c R d g7 a3 ⟨who, op, a, v, sh⟩))
            case first =>
              have q1 : (op == 5) = false := by have h := HOP.out; simpa using (show ¬ op = 5 by omega)
              have q3 : (op == 6) = false := by have h := HOP.out; simpa using (show ¬ op = 6 by omega)
              have HV := Lib.hid (show sm = false by rw [HSM.out]; simp [q1, q3])
              refine wp_quiet_later (by kernel_rfl) (by kernel_rfl) ?_
              repeat (first
                | go_big_quiet_skip
                | go_big_quiet_step (fail))
              refine wpQuiet_nil ?_
              intro _ hw
              obtain ⟨p', rfl⟩ := hw
              replace O := O.keeps p'.2
              clear c0 c1 c2 c3 c4 c7 q1 q3
              generalize p'.1 = W at O ⊢
              go_wp2
              go_meet
              exact ⟨by rw [HV.out], O⟩
            case rest =>
              obtain ⟨rfl, O⟩ := hcut
              clear c0 c1 c2 c3 c4 c7 HSM
              cases sm with
              | true =>
                go_wp2
                go_roundg (j - (k + 1))
                case measure => (have := HG.out; omega)
                case rel => exact ⟨k + 1, by omega, rfl, by go_num, rfl, rfl, by rw [HPL.out]; go_num, O⟩
              | false =>
                go_wp2
                go_roundg (j - (k + 1))
                case measure => (have := HG.out; omega)
                case rel => exact ⟨k + 1, by omega, rfl, by go_num, rfl, rfl, by rw [HPL.out]; rfl, O⟩
    · obtain rfl : k = j := by omega
      clear HG g1
      obtain ⟨x9, hx9⟩ : ∃ x, x = oI (lastN E who k) := ⟨_, rfl⟩
      obtain ⟨x10, hx10⟩ : ∃ x, x = oI (bornN E who k) := ⟨_, rfl⟩
      obtain ⟨nk, hnk⟩ : ∃ x, x = (pickL (samE E ⟨who, op, a, v, sh⟩) k).length := ⟨_, rfl⟩
      rw [← hx9, ← hx10, ← hnk]
      have HNK := Lib.hid hnk
      have HX9 := Lib.hid hx9
      have HX10 := Lib.hid hx10
      have hnkk : nk ≤ k := by rw [hnk]; exact pickL_length _ _
      clear hx9 hx10 hnk
      go_upto_if 108 with (fail)
      go_cut [8] (fun s8 wx => Own w wx [] (LI S A c R d g7 a3 ⟨who, op, a, v, sh⟩) ∧ Mint w.heap.size wx s8 (ownL (lkN E k) who))
      case first =>
        have M := Mint.nil w.heap.size wr
        cases hl : lastN E who k with
        | some i =>
          have HO := Lib.hid (show ownL (lkN E k) who = [] ++ [x9] by rw [ownL_lk, hl, HX9.out, hl]; rfl)
          have q1 : (0 : Int) ≤ x9 := by rw [HX9.out, hl]; exact (lastN_lt hl).1
          clear hl
          go_wp2_with (first
            | (refine own_lit1 111 (x9) O rfl rfl rfl rfl ?_; clear O; intro W gl O K1 _; replace M := M.keeps K1 (by simp); clear K1; simp only [Act.put, List.setIfInBounds_toArray, List.set_cons_zero, List.set_cons_succ])
            | (at_builtin; refine own_app w.heap.size _ ([]) (x9) gl (.tmp 109) (.tmp 111) (O.drop_ 1) M rfl rfl rfl rfl ((O.get 0 rfl).cell 0) rfl (by simp [LI]) (by simp) ?_; clear O M; intro v1 W O M; simp only [List.drop] at O; simp only [Act.put, List.setIfInBounds_toArray, List.set_cons_zero, List.set_cons_succ]))
          go_meet
          exact ⟨O, by rw [HO.out]; exact M⟩
        | none =>
          have q1 : ¬ (0 : Int) ≤ x9 := by rw [HX9.out, hl]; decide
          cases hb : bornN E who k with
          | some i =>
            have HO := Lib.hid (show ownL (lkN E k) who = [] ++ [x10] by rw [ownL_lk, hl, hb, HX10.out, hb]; rfl)
            have q2 : (0 : Int) ≤ x10 := by rw [HX10.out, hb]; exact (bornN_lt hb).1
            clear hl hb
            go_wp2_with (first
              | (refine own_lit1 117 (x10) O rfl rfl rfl rfl ?_; clear O; intro W gl O K1 _; replace M := M.keeps K1 (by simp); clear K1; simp only [Act.put, List.setIfInBounds_toArray, List.set_cons_zero, List.set_cons_succ])
              | (at_builtin; refine own_app w.heap.size _ ([]) (x10) gl (.tmp 115) (.tmp 117) (O.drop_ 1) M rfl rfl rfl rfl ((O.get 0 rfl).cell 0) rfl (by simp [LI]) (by simp) ?_; clear O M; intro v1 W O M; simp only [List.drop] at O; simp only [Act.put, List.setIfInBounds_toArray, List.set_cons_zero, List.set_cons_succ]))
            go_meet
            exact ⟨O, by rw [HO.out]; exact M⟩
          | none =>
            have HO := Lib.hid (show ownL (lkN E k) who = [] by rw [ownL_lk, hl, hb])
            have q2 : ¬ (0 : Int) ≤ x10 := by rw [HX10.out, hb]; decide
            clear hl hb
            go_wp2
            go_meet
            exact ⟨O, by rw [HO.out]; exact M⟩
      case rest =>
        obtain ⟨O, M⟩ := hcut
        have HOL := Lib.hid (show (ownL (lkN E k) who).length ≤ 1 by rw [ownL_lk]; split <;> (try split) <;> simp)
        clear HX9 HX10
        by_cases o6 : op = 6
        · exfalso
          have := HOP.out
          omega
        · by_cases o5 : op = 5
          · exfalso
            have := HOP.out
            omega
          · by_cases o8 : op = 8
            · exfalso
              have := HOP.out
              omega
            · by_cases o11 : op = 11
              · exfalso
                have := HOP.out
                omega
              · have HRF := Lib.hid (show refM E (rmS S) k ⟨who, op, a, v, sh⟩ = [] by simp [refM, o6, o5, o8, o11])
                have q6 : (op == 6) = false := by simpa using o6
                have q5 : (op == 5) = false := by simpa using o5
                have q8 : (op == 8) = false := by simpa using o8
                have q11 : (op == 11) = false := by simpa using o11
                clear o6 o5 o8 o11
                have c7 : ∀ i : Nat, (wc).cell? ⟨g7, i, none⟩ = #[Value.int .i64 who, .int .i64 op, .int .i64 a, .int .i64 v, .bool sh][i]? := (O.get 0 rfl).cell
                rw [← List.append_nil (ownL (lkN E k) who)] at M
                have HXL := Lib.hid (show ((ownL (lkN E k) who) ++ []).length ≤ 1000000 by have := HOL.out; rw [List.append_nil]; omega)
                go_wp2_with (first | go_big_skip | go_at_call 98; refine (rising_any _ ((ownL (lkN E k) who) ++ []) HXL.out M.list).mono ?_; rintro e W ⟨⟨r, ys, rfl, MR, HR⟩, K⟩)
                go_ret
                refine ⟨⟨_, rfl, mint_low (b := w.heap.size) ?_ O.keep.size⟩, O.keep.trans K (by simp)⟩
                have hfin := into_rose (E := E) (rm := rmS S) (j := k) (ys := ys) (by rw [← HEJ.out]; rw [show refM E (rmS S) k _ = _ from HRF.out]; exact HR) (fun h6 hs => ok_take HOK.out h6 hs) (fun h6 hs => ok_shut HOK.out h6 hs)
                rw [← hfin]
                exact MR
end
end Go.Proofs.Ytakmcpadkanggaa
namespace Go.Proofs.Ytakmcpadkanggaa
open Go.RowKit Go.Maps Go.Deep
section
variable {w : World} {S : Sys} {A : Option Addr} {c : Nat} {R : Option Addr} {d n : Nat} {E : Nat → Ev} {B : Option Addr} {cb : Nat}
set_option maxRecDepth 100000 in
set_option maxHeartbeats 4000000 in
theorem into_11 (hS : SysIn w S A c R d) (hE : EvsAt w B n E) (hn : n ≤ 40000) (hrm : ∀ q, q < S.nr → 1 ≤ S.rm q ∧ S.rm q ≤ 1000000) (j : Nat) (hj : j < n) (hok : okE S (stN E j) (E j) = true) (hop : (E j).op = 11) : Calls Try.prog 71 #[.agg (sysV S A c R d), .slice B n cb, .int .i64 (j : Int)] w (IntoPost w S E j) := by
  have O := Own.start w []
  have HE := Lib.hid hE
  have g1 : ((j : Nat) : Int) < n := by omega
  have g0 : (0 : Int) ≤ j := by omega
  obtain ⟨ad, rfl, hc⟩ := EvsAt.row (u := w) HE.out hj
  have HC := Lib.hid hc
  obtain ⟨e, he⟩ : ∃ e, e = E j := ⟨_, rfl⟩
  rw [← he] at hc HC hop
  have HEJ := Lib.hid he
  have HRO := Lib.hid hS.rooms
  have HRM := Lib.hid hrm
  have HOK := Lib.hid hok
  clear hc hE he hS hrm hok
  obtain ⟨who, op, a, v, sh⟩ := e
  have HOP := Lib.hid hop
  clear hop
  go_enter Try.func71, Try.ntmps71
  go_wp2_with (first
    | go_big_skip
    | (refine own_box 3 (sysV S A c R d) O rfl rfl rfl rfl ?_; clear O; intro W a3 O; simp only [Act.put, List.setIfInBounds_toArray, List.set_cons_zero, List.set_cons_succ])
    | (refine wpList_load_at 21 rfl rfl rfl rfl (HC.out [] _ O.keep (by simp)) Try.underlying37 rfl (by kernel_rfl) ?_; simp only [Act.put, List.setIfInBounds_toArray, List.set_cons_zero, List.set_cons_succ])
    | (refine own_alloc 7 (evC ⟨0, 0, 0, 0, false⟩) O rfl rfl rfl (fun _ => by kernel_rfl) ?_; clear O; intro W g7 O; simp only [Act.put, List.setIfInBounds_toArray, List.set_cons_zero, List.set_cons_succ])
    | (refine own_store_row 0 (.tmp 7) (.tmp 21) O rfl rfl rfl rfl rfl rfl (by kernel_rfl) (by rfl) (evC_cell _) ?_; clear O; intro W O; simp only [List.set_cons_zero] at O))
  go_loopg [9, 10, 11, 12] j (fun g s9 s10 s11 s12 wr => ∃ k, k ≤ j ∧ g = j - k ∧ s12 = .int .i64 (k : Int) ∧ s9 = .int .i64 (oI (lastN E who k)) ∧ s10 = .int .i64 (oI (bornN E who k)) ∧ s11 = .int .i64 ((pickL (samE E ⟨who, op, a, v, sh⟩) k).length : Int) ∧ Own w wr [] (LI S A c R d g7 a3 ⟨who, op, a, v, sh⟩))
  case atStart => exact ⟨0, by omega, by omega, rfl, rfl, rfl, rfl, O⟩
  case round =>
    obtain ⟨k, hk, hgk, rfl, rfl, rfl, rfl, O⟩ := hrel
    have HG := Lib.hid hgk
    clear hgk
    by_cases hlt : k < j
    · have g2 : ((k : Int)) < j := by omega
      have g3 : ((k : Int)) < n := by omega
      have g4 : (0 : Int) ≤ k := by omega
      obtain ⟨ad', e', hc⟩ := EvsAt.row (u := w) HE.out (show k < n by omega)
      cases e'
      obtain ⟨f, hf⟩ : ∃ f, f = E k := ⟨_, rfl⟩
      rw [← hf] at hc
      have HCK := Lib.hid hc
      have HLN := Lib.hid (show lastN E who (k + 1) = if f.who = who then some (k : Int) else lastN E who k by rw [hf]; rfl)
      have HBN := Lib.hid (show bornN E who (k + 1) = if f.op = 14 ∧ 0 < f.v ∧ f.v = who then some (k : Int) else bornN E who k by rw [hf]; rfl)
      have HSM := Lib.hid (show samE E ⟨who, op, a, v, sh⟩ k = ((((op == 5) && (f.op == 5)) || ((op == 6) && (!sh && ((f.op == 6) && !f.sh)))) && (f.a == a)) by rw [hf]; rfl)
      have HPL := Lib.hid (show (pickL (samE E ⟨who, op, a, v, sh⟩) (k + 1)).length = (pickL (samE E ⟨who, op, a, v, sh⟩) k).length + if samE E ⟨who, op, a, v, sh⟩ k then 1 else 0 by rw [pickL_succ, List.length_append]; split <;> rfl)
      have hpl := pickL_length (samE E ⟨who, op, a, v, sh⟩) k
      generalize samE E ⟨who, op, a, v, sh⟩ k = sm at HSM HPL
      generalize hnk : (pickL (samE E ⟨who, op, a, v, sh⟩) k).length = nk at hpl HPL ⊢
      clear hf hc hnk
      obtain ⟨lw, lo, la, lv, ls⟩ := f
      have c0 : ∀ p : Later wr, p.1.cell? (ad.add (k * 5)) = some (.int .i64 lw) := fun p => HCK.out [] _ (O.keep.trans p.2 (by simp)) (by simp) 0 (by show 0 < 5; omega)
      have c1 : ∀ p : Later wr, p.1.cell? ⟨(ad.add (k * 5)).block, (ad.add (k * 5)).off + 1, none⟩ = some (.int .i64 lo) := fun p => HCK.out [] _ (O.keep.trans p.2 (by simp)) (by simp) 1 (by show 1 < 5; omega)
      have c2 : ∀ p : Later wr, p.1.cell? ⟨(ad.add (k * 5)).block, (ad.add (k * 5)).off + 2, none⟩ = some (.int .i64 la) := fun p => HCK.out [] _ (O.keep.trans p.2 (by simp)) (by simp) 2 (by show 2 < 5; omega)
      have c3 : ∀ p : Later wr, p.1.cell? ⟨(ad.add (k * 5)).block, (ad.add (k * 5)).off + 3, none⟩ = some (.int .i64 lv) := fun p => HCK.out [] _ (O.keep.trans p.2 (by simp)) (by simp) 3 (by show 3 < 5; omega)
      have c4 : ∀ p : Later wr, p.1.cell? ⟨(ad.add (k * 5)).block, (ad.add (k * 5)).off + 4, none⟩ = some (.bool ls) := fun p => HCK.out [] _ (O.keep.trans p.2 (by simp)) (by simp) 4 (by show 4 < 5; omega)
      have c7 : ∀ (p : Later wr) (i : Nat), p.1.cell? ⟨g7, i, none⟩ = #[Value.int .i64 who, .int .i64 op, .int .i64 a, .int .i64 v, .bool sh][i]? := Later.cell (O.get 0 rfl)
      go_upto_region 9 with (fail)
      refine wp_quiet_later (by kernel_rfl) (by kernel_rfl) ?_
      repeat (first
        | go_big_quiet_skip
        | go_big_quiet_step (fail))
      refine wpQuiet_nil ?_
      intro _ hw
      obtain ⟨p', rfl⟩ := hw
      replace O := O.keeps p'.2
      clear c0 c1 c2 c3 c4 c7
      generalize p'.1 = W at O ⊢
      go_upto_if 34 with (fail)
      go_cut [9] (fun s9 wx => s9 = .int .i64 (oI (lastN E who (k + 1))) ∧ Own w wx [] (LI S A c R d g7 a3 ⟨who, op, a, v, sh⟩))
      case first =>
        by_cases h : lw = who
        · have e1 : (lw == who) = true := by simpa using h
          have HN := Lib.hid (HLN.out.trans (if_pos h))
          clear h
          go_wp2
          go_meet
          exact ⟨by rw [HN.out]; rfl, O⟩
        · have e1 : (lw == who) = false := by simpa using h
          have HN := Lib.hid (HLN.out.trans (if_neg h))
          clear h
          go_wp2
          go_meet
          exact ⟨by rw [HN.out], O⟩
      case rest =>
        obtain ⟨rfl, O⟩ := hcut
        clear HLN
        have c0 : ∀ p : Later wc, p.1.cell? (ad.add (k * 5)) = some (.int .i64 lw) := fun p => HCK.out [] _ (O.keep.trans p.2 (by simp)) (by simp) 0 (by show 0 < 5; omega)
        have c1 : ∀ p : Later wc, p.1.cell? ⟨(ad.add (k * 5)).block, (ad.add (k * 5)).off + 1, none⟩ = some (.int .i64 lo) := fun p => HCK.out [] _ (O.keep.trans p.2 (by simp)) (by simp) 1 (by show 1 < 5; omega)
        have c2 : ∀ p : Later wc, p.1.cell? ⟨(ad.add (k * 5)).block, (ad.add (k * 5)).off + 2, none⟩ = some (.int .i64 la) := fun p => HCK.out [] _ (O.keep.trans p.2 (by simp)) (by simp) 2 (by show 2 < 5; omega)
        have c3 : ∀ p : Later wc, p.1.cell? ⟨(ad.add (k * 5)).block, (ad.add (k * 5)).off + 3, none⟩ = some (.int .i64 lv) := fun p => HCK.out [] _ (O.keep.trans p.2 (by simp)) (by simp) 3 (by show 3 < 5; omega)
        have c4 : ∀ p : Later wc, p.1.cell? ⟨(ad.add (k * 5)).block, (ad.add (k * 5)).off + 4, none⟩ = some (.bool ls) := fun p => HCK.out [] _ (O.keep.trans p.2 (by simp)) (by simp) 4 (by show 4 < 5; omega)
        have c7 : ∀ (p : Later wc) (i : Nat), p.1.cell? ⟨g7, i, none⟩ = #[Value.int .i64 who, .int .i64 op, .int .i64 a, .int .i64 v, .bool sh][i]? := Later.cell (O.get 0 rfl)
        obtain ⟨bB, hbB⟩ : ∃ bB, bB = decide (lo = 14 ∧ 0 < lv ∧ lv = who) := ⟨_, rfl⟩
        have HBB := Lib.hid hbB
        clear hbB
        go_upto_region 11 with (fail)
        go_cut [56] (fun s wx => s = .bool bB ∧ Own w wx [] (LI S A c R d g7 a3 ⟨who, op, a, v, sh⟩))
        case first =>
          by_cases h1 : lo = 14
          · have qh1 : (lo == 14) = true := by simpa using h1
            by_cases h2 : lv = who
            · have qh2 : (lv == who) = true := by simpa using h2
              by_cases h3 : 0 < who
              · have qh3 : decide (0 < who) = true := decide_eq_true h3
                have HV := Lib.hid (show bB = true by rw [HBB.out]; simp [qh1, h1, qh2, h2, qh3, h3])
                clear h1 h2 h3
                refine wp_quiet_later (by kernel_rfl) (by kernel_rfl) ?_
                repeat (first
                  | go_big_quiet_skip
                  | go_big_quiet_step (fail))
                refine wpQuiet_nil ?_
                intro _ hw
                obtain ⟨p', rfl⟩ := hw
                replace O := O.keeps p'.2
                clear c0 c1 c2 c3 c4 c7 qh1 qh2 qh3
                generalize p'.1 = W at O ⊢
                go_wp2
                go_meet
                exact ⟨by rw [HV.out], O⟩
              · have qh3 : decide (0 < who) = false := decide_eq_false h3
                have HV := Lib.hid (show bB = false by rw [HBB.out]; simp [qh1, h1, qh2, h2, qh3, h3])
                clear h1 h2 h3
                refine wp_quiet_later (by kernel_rfl) (by kernel_rfl) ?_
                repeat (first
                  | go_big_quiet_skip
                  | go_big_quiet_step (fail))
                refine wpQuiet_nil ?_
                intro _ hw
                obtain ⟨p', rfl⟩ := hw
                replace O := O.keeps p'.2
                clear c0 c1 c2 c3 c4 c7 qh1 qh2 qh3
                generalize p'.1 = W at O ⊢
                go_wp2
                go_meet
                exact ⟨by rw [HV.out], O⟩
            · have qh2 : (lv == who) = false := by simpa using h2
              have HV := Lib.hid (show bB = false by rw [HBB.out]; simp [qh1, h1, qh2, h2])
              clear h1 h2
              refine wp_quiet_later (by kernel_rfl) (by kernel_rfl) ?_
              repeat (first
                | go_big_quiet_skip
                | go_big_quiet_step (fail))
              refine wpQuiet_nil ?_
              intro _ hw
              obtain ⟨p', rfl⟩ := hw
              replace O := O.keeps p'.2
              clear c0 c1 c2 c3 c4 c7 qh1 qh2
              generalize p'.1 = W at O ⊢
              go_wp2
              go_meet
              exact ⟨by rw [HV.out], O⟩
          · have qh1 : (lo == 14) = false := by simpa using h1
            have HV := Lib.hid (show bB = false by rw [HBB.out]; simp [qh1, h1])
            clear h1
            refine wp_quiet_later (by kernel_rfl) (by kernel_rfl) ?_
            repeat (first
              | go_big_quiet_skip
              | go_big_quiet_step (fail))
            refine wpQuiet_nil ?_
            intro _ hw
            obtain ⟨p', rfl⟩ := hw
            replace O := O.keeps p'.2
            clear c0 c1 c2 c3 c4 c7 qh1
            generalize p'.1 = W at O ⊢
            go_wp2
            go_meet
            exact ⟨by rw [HV.out], O⟩
        case rest =>
          obtain ⟨rfl, O⟩ := hcut
          clear c0 c1 c2 c3 c4 c7
          go_upto_if 56 with (fail)
          go_cut [10] (fun s10 wx => s10 = .int .i64 (oI (bornN E who (k + 1))) ∧ Own w wx [] (LI S A c R d g7 a3 ⟨who, op, a, v, sh⟩))
          case first =>
            cases bB with
            | true =>
              have HN := Lib.hid (HBN.out.trans (if_pos (of_decide_eq_true HBB.out.symm)))
              go_wp2
              go_meet
              exact ⟨by rw [HN.out]; rfl, O⟩
            | false =>
              have HN := Lib.hid (HBN.out.trans (if_neg (of_decide_eq_false HBB.out.symm)))
              go_wp2
              go_meet
              exact ⟨by rw [HN.out], O⟩
          case rest =>
            obtain ⟨rfl, O⟩ := hcut
            clear HBN HBB
            have c0 : ∀ p : Later wc, p.1.cell? (ad.add (k * 5)) = some (.int .i64 lw) := fun p => HCK.out [] _ (O.keep.trans p.2 (by simp)) (by simp) 0 (by show 0 < 5; omega)
            have c1 : ∀ p : Later wc, p.1.cell? ⟨(ad.add (k * 5)).block, (ad.add (k * 5)).off + 1, none⟩ = some (.int .i64 lo) := fun p => HCK.out [] _ (O.keep.trans p.2 (by simp)) (by simp) 1 (by show 1 < 5; omega)
            have c2 : ∀ p : Later wc, p.1.cell? ⟨(ad.add (k * 5)).block, (ad.add (k * 5)).off + 2, none⟩ = some (.int .i64 la) := fun p => HCK.out [] _ (O.keep.trans p.2 (by simp)) (by simp) 2 (by show 2 < 5; omega)
            have c3 : ∀ p : Later wc, p.1.cell? ⟨(ad.add (k * 5)).block, (ad.add (k * 5)).off + 3, none⟩ = some (.int .i64 lv) := fun p => HCK.out [] _ (O.keep.trans p.2 (by simp)) (by simp) 3 (by show 3 < 5; omega)
            have c4 : ∀ p : Later wc, p.1.cell? ⟨(ad.add (k * 5)).block, (ad.add (k * 5)).off + 4, none⟩ = some (.bool ls) := fun p => HCK.out [] _ (O.keep.trans p.2 (by simp)) (by simp) 4 (by show 4 < 5; omega)
            have c7 : ∀ (p : Later wc) (i : Nat), p.1.cell? ⟨g7, i, none⟩ = #[Value.int .i64 who, .int .i64 op, .int .i64 a, .int .i64 v, .bool sh][i]? := Later.cell (O.get 0 rfl)
            go_upto_region 13 with (fail)
            go_cut [104] (fun s wx => s = .bool sm ∧ Own w wx [] (LI S A c R d g7 a3 ⟨who, op, a, v, sh⟩))
            case first =>
              have q1 : (op == 5) = false := by have h := HOP.out; simpa using (show ¬ op = 5 by omega)
              have q3 : (op == 6) = false := by have h := HOP.out; simpa using (show ¬ op = 6 by omega)
              have HV := Lib.hid (show sm = false by rw [HSM.out]; simp [q1, q3])
              refine wp_quiet_later (by kernel_rfl) (by kernel_rfl) ?_
              repeat (first
                | go_big_quiet_skip
                | go_big_quiet_step (fail))
              refine wpQuiet_nil ?_
              intro _ hw
              obtain ⟨p', rfl⟩ := hw
              replace O := O.keeps p'.2
              clear c0 c1 c2 c3 c4 c7 q1 q3
              generalize p'.1 = W at O ⊢
              go_wp2
              go_meet
              exact ⟨by rw [HV.out], O⟩
            case rest =>
              obtain ⟨rfl, O⟩ := hcut
              clear c0 c1 c2 c3 c4 c7 HSM
              cases sm with
              | true =>
                go_wp2
                go_roundg (j - (k + 1))
                case measure => (have := HG.out; omega)
                case rel => exact ⟨k + 1, by omega, rfl, by go_num, rfl, rfl, by rw [HPL.out]; go_num, O⟩
              | false =>
                go_wp2
                go_roundg (j - (k + 1))
                case measure => (have := HG.out; omega)
                case rel => exact ⟨k + 1, by omega, rfl, by go_num, rfl, rfl, by rw [HPL.out]; rfl, O⟩
    · obtain rfl : k = j := by omega
      clear HG g1
      obtain ⟨x9, hx9⟩ : ∃ x, x = oI (lastN E who k) := ⟨_, rfl⟩
      obtain ⟨x10, hx10⟩ : ∃ x, x = oI (bornN E who k) := ⟨_, rfl⟩
      obtain ⟨nk, hnk⟩ : ∃ x, x = (pickL (samE E ⟨who, op, a, v, sh⟩) k).length := ⟨_, rfl⟩
      rw [← hx9, ← hx10, ← hnk]
      have HNK := Lib.hid hnk
      have HX9 := Lib.hid hx9
      have HX10 := Lib.hid hx10
      have hnkk : nk ≤ k := by rw [hnk]; exact pickL_length _ _
      clear hx9 hx10 hnk
      go_upto_if 108 with (fail)
      go_cut [8] (fun s8 wx => Own w wx [] (LI S A c R d g7 a3 ⟨who, op, a, v, sh⟩) ∧ Mint w.heap.size wx s8 (ownL (lkN E k) who))
      case first =>
        have M := Mint.nil w.heap.size wr
        cases hl : lastN E who k with
        | some i =>
          have HO := Lib.hid (show ownL (lkN E k) who = [] ++ [x9] by rw [ownL_lk, hl, HX9.out, hl]; rfl)
          have q1 : (0 : Int) ≤ x9 := by rw [HX9.out, hl]; exact (lastN_lt hl).1
          clear hl
          go_wp2_with (first
            | (refine own_lit1 111 (x9) O rfl rfl rfl rfl ?_; clear O; intro W gl O K1 _; replace M := M.keeps K1 (by simp); clear K1; simp only [Act.put, List.setIfInBounds_toArray, List.set_cons_zero, List.set_cons_succ])
            | (at_builtin; refine own_app w.heap.size _ ([]) (x9) gl (.tmp 109) (.tmp 111) (O.drop_ 1) M rfl rfl rfl rfl ((O.get 0 rfl).cell 0) rfl (by simp [LI]) (by simp) ?_; clear O M; intro v1 W O M; simp only [List.drop] at O; simp only [Act.put, List.setIfInBounds_toArray, List.set_cons_zero, List.set_cons_succ]))
          go_meet
          exact ⟨O, by rw [HO.out]; exact M⟩
        | none =>
          have q1 : ¬ (0 : Int) ≤ x9 := by rw [HX9.out, hl]; decide
          cases hb : bornN E who k with
          | some i =>
            have HO := Lib.hid (show ownL (lkN E k) who = [] ++ [x10] by rw [ownL_lk, hl, hb, HX10.out, hb]; rfl)
            have q2 : (0 : Int) ≤ x10 := by rw [HX10.out, hb]; exact (bornN_lt hb).1
            clear hl hb
            go_wp2_with (first
              | (refine own_lit1 117 (x10) O rfl rfl rfl rfl ?_; clear O; intro W gl O K1 _; replace M := M.keeps K1 (by simp); clear K1; simp only [Act.put, List.setIfInBounds_toArray, List.set_cons_zero, List.set_cons_succ])
              | (at_builtin; refine own_app w.heap.size _ ([]) (x10) gl (.tmp 115) (.tmp 117) (O.drop_ 1) M rfl rfl rfl rfl ((O.get 0 rfl).cell 0) rfl (by simp [LI]) (by simp) ?_; clear O M; intro v1 W O M; simp only [List.drop] at O; simp only [Act.put, List.setIfInBounds_toArray, List.set_cons_zero, List.set_cons_succ]))
            go_meet
            exact ⟨O, by rw [HO.out]; exact M⟩
          | none =>
            have HO := Lib.hid (show ownL (lkN E k) who = [] by rw [ownL_lk, hl, hb])
            have q2 : ¬ (0 : Int) ≤ x10 := by rw [HX10.out, hb]; decide
            clear hl hb
            go_wp2
            go_meet
            exact ⟨O, by rw [HO.out]; exact M⟩
      case rest =>
        obtain ⟨O, M⟩ := hcut
        have HOL := Lib.hid (show (ownL (lkN E k) who).length ≤ 1 by rw [ownL_lk]; split <;> (try split) <;> simp)
        clear HX9 HX10
        by_cases o6 : op = 6
        · exfalso
          have := HOP.out
          omega
        · by_cases o5 : op = 5
          · exfalso
            have := HOP.out
            omega
          · by_cases o8 : op = 8
            · exfalso
              have := HOP.out
              omega
            · by_cases o11 : op = 11
              · subst o11
                have c7 : ∀ i : Nat, (wc).cell? ⟨g7, i, none⟩ = #[Value.int .i64 who, .int .i64 11, .int .i64 a, .int .i64 v, .bool sh][i]? := (O.get 0 rfl).cell
                go_wp2
                clear c7
                go_loopg [8, 17] k (fun g s8 s17 wr => ∃ m, m ≤ k ∧ g = k - m ∧ s17 = .int .i64 (m : Int) ∧ Own w wr [] (LI S A c R d g7 a3 ⟨who, 11, a, v, sh⟩) ∧ Mint w.heap.size wr s8 ((ownL (lkN E k) who) ++ natL (pickL (isAdd E a) m)))
                case atStart => exact ⟨0, by omega, by omega, rfl, O, by rw [show natL (pickL (isAdd E a) 0) = [] from rfl, List.append_nil]; exact M⟩
                case round =>
                  obtain ⟨m, hm, hgk, rfl, O, M⟩ := hrel
                  have HG := Lib.hid hgk
                  clear hgk
                  by_cases hlt : m < k
                  · have g2 : ((m : Int)) < k := by omega
                    have g3 : ((m : Int)) < n := by omega
                    have g4 : (0 : Int) ≤ m := by omega
                    obtain ⟨ad', e', hc⟩ := EvsAt.row (u := w) HE.out (show m < n by omega)
                    cases e'
                    obtain ⟨f, hf⟩ : ∃ f, f = E m := ⟨_, rfl⟩
                    rw [← hf] at hc
                    have HCK := Lib.hid hc
                    have HFM := Lib.hid hf
                    clear hf hc
                    obtain ⟨lw, lo, la, lv, ls⟩ := f
                    have c1 : ∀ p : Later wr, p.1.cell? ⟨(ad.add (m * 5)).block, (ad.add (m * 5)).off + 1, none⟩ = some (.int .i64 lo) := fun p => HCK.out [] _ (O.keep.trans p.2 (by simp)) (by simp) 1 (by show 1 < 5; omega)
                    have c2 : ∀ p : Later wr, p.1.cell? ⟨(ad.add (m * 5)).block, (ad.add (m * 5)).off + 2, none⟩ = some (.int .i64 la) := fun p => HCK.out [] _ (O.keep.trans p.2 (by simp)) (by simp) 2 (by show 2 < 5; omega)
                    have c7 : ∀ (p : Later wr) (i : Nat), p.1.cell? ⟨g7, i, none⟩ = #[Value.int .i64 who, .int .i64 11, .int .i64 a, .int .i64 v, .bool sh][i]? := Later.cell (O.get 0 rfl)
                    by_cases h1 : lo = 10
                    · have q1 : (lo == 10) = true := by simpa using h1
                      by_cases h2 : la = a
                      · have q2 : (la == a) = true := by simpa using h2
                        have HY := Lib.hid (And.intro h1 h2)
                        clear h1 h2
                        go_wp2
                        refine wp_quiet_later (by kernel_rfl) (by kernel_rfl) ?_
                        repeat (first
                          | go_big_quiet_skip
                          | go_big_quiet_step (fail))
                        refine wpQuiet_nil ?_
                        intro _ hw
                        obtain ⟨p', rfl⟩ := hw
                        replace O := O.keeps p'.2
                        replace M := M.keeps p'.2 (by simp)
                        clear c1 c2 c7
                        generalize p'.1 = W at O M ⊢
                        clear q1 q2
                        have HFL := Lib.hid (pickL_length (isAdd E a) m)
                        go_wp2_with (first
                          | (refine own_lit1 274 ((m : Int)) O rfl rfl rfl rfl ?_; clear O; intro W gl O K1 _; replace M := M.keeps K1 (by simp); clear K1; simp only [Act.put, List.setIfInBounds_toArray, List.set_cons_zero, List.set_cons_succ])
                          | (at_builtin; refine own_app w.heap.size _ ((ownL (lkN E k) who) ++ natL (pickL (isAdd E a) m)) ((m : Int)) gl (.tmp 272) (.tmp 274) (O.drop_ 1) M rfl rfl rfl rfl ((O.get 0 rfl).cell 0) rfl (by simp [LI]) (by have := HOL.out; have := HFL.out; rw [List.length_append, natL_length]; omega) ?_; clear O M; intro v1 W O M; simp only [List.drop] at O; simp only [Act.put, List.setIfInBounds_toArray, List.set_cons_zero, List.set_cons_succ]))
                        go_roundg (k - (m + 1))
                        case measure => (have := HG.out; omega)
                        case rel => exact ⟨m + 1, by omega, rfl, by go_num, O, (by rw [pickL_succ, if_pos (by simp [isAdd]; rw [← HFM.out]; exact HY.out), natL_append, ← List.append_assoc]; exact M)⟩
                      · have q2 : (la == a) = false := by simpa using h2
                        have HN := Lib.hid (show ¬ (lo = 10 ∧ la = a) from fun q => h2 q.2)
                        clear h1 h2
                        go_wp2
                        refine wp_quiet_later (by kernel_rfl) (by kernel_rfl) ?_
                        repeat (first
                          | go_big_quiet_skip
                          | go_big_quiet_step (fail))
                        refine wpQuiet_nil ?_
                        intro _ hw
                        obtain ⟨p', rfl⟩ := hw
                        replace O := O.keeps p'.2
                        replace M := M.keeps p'.2 (by simp)
                        clear c1 c2 c7
                        generalize p'.1 = W at O M ⊢
                        clear q1
                        go_wp2
                        go_roundg (k - (m + 1))
                        case measure => (have := HG.out; omega)
                        case rel => exact ⟨m + 1, by omega, rfl, by go_num, O, (by rw [pickL_succ, if_neg (by simp [isAdd]; rw [← HFM.out]; intro q1 q2; exact absurd ⟨q1, q2⟩ HN.out), List.append_nil]; exact M)⟩
                    · have q1 : (lo == 10) = false := by simpa using h1
                      have HN := Lib.hid (show ¬ (lo = 10 ∧ la = a) from fun q => h1 q.1)
                      clear h1
                      go_wp2
                      refine wp_quiet_later (by kernel_rfl) (by kernel_rfl) ?_
                      repeat (first
                        | go_big_quiet_skip
                        | go_big_quiet_step (fail))
                      refine wpQuiet_nil ?_
                      intro _ hw
                      obtain ⟨p', rfl⟩ := hw
                      replace O := O.keeps p'.2
                      replace M := M.keeps p'.2 (by simp)
                      clear c1 c2 c7
                      generalize p'.1 = W at O M ⊢
                      clear q1
                      go_wp2
                      go_roundg (k - (m + 1))
                      case measure => (have := HG.out; omega)
                      case rel => exact ⟨m + 1, by omega, rfl, by go_num, O, (by rw [pickL_succ, if_neg (by simp [isAdd]; rw [← HFM.out]; intro q1 q2; exact absurd ⟨q1, q2⟩ HN.out), List.append_nil]; exact M)⟩
                  · obtain rfl : k = m := by omega
                    have HRF := Lib.hid (show refM E (rmS S) k ⟨who, 11, a, v, sh⟩ = natL (pickL (isAdd E a) k) from rfl)
                    have HFL := Lib.hid (pickL_length (isAdd E a) k)
                    have HXL := Lib.hid (show ((ownL (lkN E k) who) ++ natL (pickL (isAdd E a) k)).length ≤ 1000000 by have := HOL.out; have := HFL.out; rw [List.length_append, natL_length]; omega)
                    go_wp2_with (go_at_call 98; refine (rising_any _ ((ownL (lkN E k) who) ++ natL (pickL (isAdd E a) k)) HXL.out M.list).mono ?_; rintro e W ⟨⟨r, ys, rfl, MR, HR⟩, K⟩)
                    go_ret
                    refine ⟨⟨_, rfl, mint_low (b := w.heap.size) ?_ O.keep.size⟩, O.keep.trans K (by simp)⟩
                    have hfin := into_rose (E := E) (rm := rmS S) (j := k) (ys := ys) (by rw [← HEJ.out]; rw [show refM E (rmS S) k _ = _ from HRF.out]; exact HR) (fun h6 hs => ok_take HOK.out h6 hs) (fun h6 hs => ok_shut HOK.out h6 hs)
                    rw [← hfin]
                    exact MR
              · exfalso
                have := HOP.out
                omega
end
end Go.Proofs.Ytakmcpadkanggaa
namespace Go.Proofs.Ytakmcpadkanggaa
open Go.RowKit Go.Maps Go.Deep
section
variable {w : World} {S : Sys} {A : Option Addr} {c : Nat} {R : Option Addr} {d n : Nat} {E : Nat → Ev} {B : Option Addr} {cb : Nat}
theorem into_any (hS : SysIn w S A c R d) (hE : EvsAt w B n E) (hn : n ≤ 40000) (hrm : ∀ q, q < S.nr → 1 ≤ S.rm q ∧ S.rm q ≤ 1000000) (j : Nat) (hj : j < n) (hok : okE S (stN E j) (E j) = true) : Calls Try.prog 71 #[.agg (sysV S A c R d), .slice B n cb, .int .i64 (j : Int)] w (IntoPost w S E j) := by
  by_cases h6 : (E j).op = 6
  · exact into_6 hS hE hn hrm j hj hok h6
  · by_cases h5 : (E j).op = 5
    · exact into_5 hS hE hn hrm j hj hok h5
    · by_cases h8 : (E j).op = 8
      · exact into_8 hS hE hn hrm j hj hok h8
      · by_cases h11 : (E j).op = 11
        · exact into_11 hS hE hn hrm j hj hok h11
        · exact into_o hS hE hn hrm j hj hok ⟨h6, h5, h8, h11⟩
end
end Go.Proofs.Ytakmcpadkanggaa
namespace Go.Proofs.Ytakmcpadkanggaa
open Go.RowKit Go.Maps Go.Deep
/-- v is a slice of these numbers, in a block of its own (from block base on), maybe behind others that were taken. -/
def HRow (base : Nat) (W : World) (v : Value) (xs : List Int) : Prop :=
  (v = .slice none 0 0 ∧ xs = []) ∨ ∃ g off cap cur, v = .slice (some ⟨g, off, none⟩) xs.length cap ∧ base ≤ g ∧ Blk W g 3 cur ∧ xs.length ≤ cap ∧ cap ≤ maxLen ∧ off + cap ≤ cur.size ∧ ∀ j, j < xs.length → cur[off + j]? = some (.int .i64 (xs.getD j 0))
theorem HRow.nil (base : Nat) (W : World) : HRow base W (.slice none 0 0) [] := .inl ⟨rfl, rfl⟩
theorem HRow.own {base : Nat} {W : World} {v : Value} {xs : List Int} (h : HRow base W v xs) {g : Nat} (hg : v.ownBlock = some g) : base ≤ g ∧ ∃ cur, Blk W g 3 cur := by
  rcases h with ⟨rfl, _⟩ | ⟨g', off, cap, cur, rfl, hb, hB, _⟩
  · cases hg
  · simp [Value.ownBlock] at hg
    subst hg
    exact ⟨hb, cur, hB⟩
theorem HRow.keeps {base : Nat} {W u : World} {v : Value} {xs : List Int} {S : List Nat} (h : HRow base W v xs) (k : Keeps W u S) (hS : ∀ g, v.ownBlock = some g → g ∉ S) : HRow base u v xs := by
  rcases h with h | ⟨g, off, cap, cur, rfl, hb, hB, rest⟩
  · exact .inl h
  · exact .inr ⟨g, off, cap, cur, rfl, hb, hB.keeps k (hS g rfl), rest⟩
theorem HRow.cells {base : Nat} {W : World} {v : Value} {xs : List Int} (h : HRow base W v xs) : ∃ A c, v = .slice A xs.length c ∧ xs.length ≤ c ∧ c ≤ maxLen ∧ (0 < xs.length → ∃ ad, A = some ad ∧ ∀ j, j < xs.length → W.cell? (ad.add j) = some (.int .i64 (xs.getD j 0))) := by
  rcases h with ⟨rfl, rfl⟩ | ⟨g, off, cap, cur, rfl, hb, hB, h1, h2, h3, h4⟩
  · exact ⟨none, 0, rfl, Nat.le_refl _, by simp [maxLen], fun h => by simp at h⟩
  · exact ⟨_, cap, rfl, h1, h2, fun _ => ⟨_, rfl, fun j hj => by rw [Addr.add_mid, hB.cell]; exact h4 j hj⟩⟩
section
variable {w : World}
/-- The row behind an append: the old block or a new one. -/
theorem append_fresh {P : Program} (base t ty e : Nat) (i : TypeInfo) (z : Value) (size bytes : Nat) (ht : P.underlying t = some (.slice e)) (hi : P.info? e = some i) (hz : i.zero = some z) (hsize : i.size = size) (hby : i.bytes = bytes)
    (v : Value) (n : Nat) (xs : List Value) (hown : w.ownsRow base e size v n xs) (a : Addr) (m c : Nat) (news : List Value) (hl : news.length = m * size) (hnews : ∀ j u, news[j]? = some u → w.cell? (a.add j) = some u) (h1 : ∀ u ∈ news, u.oneCell' = true)
    (h63 : n + m ≤ maxLen) (hbytes : (n + m) * bytes ≤ 140737488355328) (hm : 0 < m) {v' : Value} {w' : World} (hr : (Builtin.append_ #[t, t] ty #[v, .slice (some a) m c]).run P w = .ok v' w') : v'.ownBlock = v.ownBlock ∨ v'.ownBlock = some w.heap.size := by
  subst hsize
  subst hby
  obtain ⟨hxl, ⟨rfl, rfl⟩ | ⟨g, cap, cur, rfl, hbg, hg, hle, hcm, hcs, htake⟩⟩ := hown
  · have h := run_append_nil (P := P) w t ty e i z ht hi hz a m c news hl hnews hm (by simp only [maxLen] at h63; omega) (by have hb := hbytes; simp only [Nat.zero_add] at hb; omega)
    rw [hr] at h
    cases h
    exact .inr rfl
  · by_cases hroom : n + m ≤ cap
    · have hfit : n * i.size + news.length ≤ cur.size := by rw [hl, hcs, ← Nat.add_mul]; exact Nat.mul_le_mul_right _ hroom
      have h := run_append_room (P := P) w t ty e i ht hi g n cap cur hg a m c news hl hnews h1 hroom hfit
      rw [hr] at h
      cases h
      exact .inl rfl
    · have hown' : w.ownsRow base e i.size (.slice (some ⟨g, 0, none⟩) n cap) n xs := ⟨hxl, .inr ⟨g, cap, cur, rfl, hbg, hg, hle, hcm, hcs, htake⟩⟩
      have holds : ∀ j u, xs[j]? = some u → w.cell? ((⟨g, 0, none⟩ : Addr).add j) = some u := hown'.cells (g := g) rfl
      have h := run_append_grow (P := P) w t ty e i z ht hi hz ⟨g, 0, none⟩ n cap xs hxl holds a m c news hl hnews (by omega) (by simp only [maxLen] at h63; omega) (growslice_fits (by omega) hbytes)
      rw [hr] at h
      cases h
      exact .inr rfl
/-- 'append(s, y)'. -/
theorem run_push (base : Nat) (ty : TypeId) (v : Value) (xs : List Int) (h : HRow base w v xs) (ad : Addr) (c : Nat) (y : Int) (hy : w.cell? ad = some (.int .i64 y)) (hb : base ≤ w.heap.size) (hn : xs.length ≤ 1000000) :
    ∃ v' w', (Builtin.append_ #[25, 25] ty #[v, .slice (some ad) 1 c]).run Try.prog w = .ok v' w' ∧ HRow base w' v' (xs ++ [y]) ∧ w.grownBy w' v.ownBlock ∧ (v'.ownBlock = v.ownBlock ∨ v'.ownBlock = some w.heap.size) := by
  obtain ⟨i, hi, hz, hsz, hby⟩ := info3
  have hnews : ∀ j u, [Value.int .i64 y][j]? = some u → w.cell? (ad.add j) = some u := fun j u hu => by
    match j with
    | 0 => simp at hu; subst hu; exact hy
    | j + 1 => simp at hu
  have h1 : ∀ u ∈ [Value.int .i64 y], u.oneCell' = true := fun u hu => by rw [List.mem_singleton] at hu; subst hu; rfl
  rcases h with ⟨rfl, rfl⟩ | ⟨g, off, cap, cur, rfl, hbg, hB, hnc, hcm, hfit, hc⟩
  · obtain ⟨v', w', hr, ho, hg, _⟩ := run_append_own (P := Try.prog) w base 25 ty 3 i (.int .i64 0) 1 8 Try.underlying25 hi hz hsz hby rfl (by decide) (.slice none 0 0) 0 [] (World.ownsRow_nil _ _ _ _) ad 1 c [.int .i64 y] rfl hnews h1 (by simp [maxLen]) (by omega) hb
    refine ⟨v', w', hr, ?_, hg, append_fresh base 25 ty 3 i (.int .i64 0) 1 8 Try.underlying25 hi hz hsz hby (.slice none 0 0) 0 [] (World.ownsRow_nil _ _ _ _) ad 1 c [.int .i64 y] rfl hnews h1 (by simp [maxLen]) (by omega) (by omega) hr⟩
    obtain ⟨_, ⟨_, h0⟩ | ⟨g, cap, cur, rfl, hbg, hB, hle, hm, hs, ht⟩⟩ := ho
    · cases h0
    · refine .inr ⟨g, 0, cap, cur, rfl, hbg, hB, hle, hm, by omega, fun j hj => ?_⟩
      have hj0 : j = 0 := by simpa using hj
      subst hj0
      have := congrArg (fun l => l[0]?) ht
      simpa [List.getElem?_take] using this
  · by_cases hroom : xs.length + 1 ≤ cap
    · have hf := run_firstCells_some (P := Try.prog) w 1 1 ad 1 c [.int .i64 y] rfl hnews
      have hst := run_storeCells_at Try.prog g (off + xs.length) 3 [.int .i64 y] 0 cur w hB (by simp; omega) h1
      simp only [Nat.add_zero] at hst
      have hr : (Builtin.append_ #[25, 25] ty #[.slice (some ⟨g, off, none⟩) xs.length cap, .slice (some ad) 1 c]).run Try.prog w = .ok (.slice (some ⟨g, off, none⟩) (xs.length + 1) cap) (w.setRow g (cur.toList.take (off + xs.length) ++ [Value.int .i64 y] ++ cur.toList.drop (off + xs.length + [Value.int IntKind.i64 y].length)).toArray) := by
        simp [Builtin.append_, run_underlying Try.underlying25, sizeOf, typeInfo, hi, hsz, Builtin.lenOf, hroom, hf, Addr.add_mid, hst]
      refine ⟨_, _, hr, .inr ⟨g, off, cap, _, by simp, hbg, setRow_heap w g cur _ 3 _ hB, by simpa using hroom, hcm, ?_, fun j hj => ?_⟩, ⟨rfl, rfl, rfl, by simp, fun k _ hk => setRow_other w g k _ (fun e => hk (by simp [Value.ownBlock, e]))⟩, .inl rfl⟩
      · simp; omega
      · simp only [List.length_append, List.length_singleton] at hj
        have hsz2 : off + xs.length ≤ cur.toList.length := by simp; omega
        rw [List.getElem?_toArray, List.append_assoc]
        by_cases hj' : j < xs.length
        · rw [List.getElem?_append_left (by rw [List.length_take]; omega), List.getElem?_take, if_pos (by omega), Array.getElem?_toList, hc j hj']
          rw [List.getD_eq_getElem?_getD, List.getD_eq_getElem?_getD, List.getElem?_append_left hj']
        · obtain rfl : j = xs.length := by omega
          rw [List.getElem?_append_right (by rw [List.length_take]; omega), List.length_take, Nat.min_eq_left hsz2]
          simp
    · have holds : ∀ j u, (xs.map fun x => Value.int .i64 x)[j]? = some u → w.cell? ((⟨g, off, none⟩ : Addr).add j) = some u := fun j u hu => by
        rw [List.getElem?_map] at hu
        rcases Nat.lt_or_ge j xs.length with hj | hj
        · rw [Addr.add_mid, hB.cell, hc j hj]
          rw [List.getElem?_eq_getElem hj] at hu
          rw [← hu, List.getD_eq_getElem?_getD, List.getElem?_eq_getElem hj]
          rfl
        · rw [List.getElem?_eq_none hj] at hu
          cases hu
      have hr := run_append_grow (P := Try.prog) w 25 ty 3 i (.int .i64 0) Try.underlying25 hi hz ⟨g, off, none⟩ xs.length cap (xs.map fun x => .int .i64 x) (by rw [hsz]; simp) holds ad 1 c [.int .i64 y] (by rw [hsz]; rfl) hnews (by omega) (by omega) (growslice_fits (by omega) (by rw [hby]; omega))
      have hge := grownCap_ge w (xs.length + 1) cap 3
      have hcm2 : grownCap w (xs.length + 1) cap 3 ≤ maxLen := grownCap_le_maxLen w (xs.length + 1) cap 3 (by simp only [maxLen]; omega)
      refine ⟨_, _, hr, .inr ⟨w.heap.size, 0, _, _, by simp, hb, heap_alloc_new w.drew _, by simpa using hge, hcm2, ?_, fun j hj => ?_⟩, ⟨rfl, rfl, rfl, by simp, fun k hk _ => heap_alloc_old w.drew _ hk⟩, .inr rfl⟩
      · have z1 : (Value.int .i64 0).cells.size = 1 := rfl
        simp only [Array.size_append, List.size_toArray, size_zeroCells, z1, List.length_map, List.length_singleton]
        omega
      · simp only [List.length_append, List.length_singleton] at hj
        rw [Nat.zero_add, Array.getElem?_append_left (by simp; omega)]
        by_cases hj' : j < xs.length
        · rw [Array.getElem?_append_left (by simpa using hj'), List.getElem?_toArray, List.getElem?_map, List.getD_eq_getElem?_getD, List.getElem?_append_left hj', List.getElem?_eq_getElem hj']
          rfl
        · obtain rfl : j = xs.length := by omega
          rw [Array.getElem?_append_right (by simp)]
          simp
end
end Go.Proofs.Ytakmcpadkanggaa
namespace Go.Proofs.Ytakmcpadkanggaa
open Go.RowKit Go.Maps Go.Deep
def rawElem (v : Value) : Option (DataW Value × List MemPlace) := some (.held v, [])
/-- Block b is a map by integers, of at most n entries: what it has at each. -/
def MapV (w : World) (b n : Nat) (f : Int → Option Value) : Prop :=
  ∃ D : DataW Value, w.ownsMap Try.prog 3 rawElem b n D ∧ ∀ k, Maps.has D (.int .i64 k) = (f k).isSome ∧ ∀ v, f k = some v → ∀ z, D.atKey (.int .i64 k) z = .held v
section
variable {w w' W : World} {S : List Nat} {b n m : Nat} {f : Int → Option Value}
theorem MapV.lt (h : MapV w b n f) : b < w.heap.size := h.choose_spec.1.lt
theorem MapV.keeps (h : MapV w b n f) (k : Keeps w w' S) (hs : b ∉ S) : MapV w' b n f := by
  obtain ⟨D, h1, h2⟩ := h
  exact ⟨D, ownsMap_block h1 (k.block b h1.lt hs), h2⟩
theorem MapV.not_blk (h : MapV w b n f) {g : Nat} {t : TypeId} {cs : Array Value} (hg : Blk w g t cs) : g ≠ b := ownsMap_not_blk h.choose_spec.1 hg
theorem MapV.mono (h : MapV w b n f) (k : n ≤ m) : MapV w b m f := by obtain ⟨D, h1, h2⟩ := h; exact ⟨D, h1.mono k, h2⟩
theorem MapV.made (w : World) : MapV (w.alloc (.map #[] 0)) w.heap.size 0 fun _ => none := ⟨.map [], World.ownsMap_made _ _ _ _, fun k => ⟨rfl, fun v h => by cases h⟩⟩
theorem MapV.at_ {D : DataW Value} (h : ∀ k, Maps.has D (.int .i64 k) = (f k).isSome ∧ ∀ v, f k = some v → ∀ z, D.atKey (.int .i64 k) z = .held v) (k : Int) (z : Value) : D.atKey (.int .i64 k) (.held z) = .held ((f k).getD z) := by
  obtain ⟨h1, h2⟩ := h k
  cases hf : f k with
  | none =>
    rw [hf] at h1
    rw [atKey_of_not_has h1]
    rfl
  | some v => rw [h2 v hf]; rfl
set_option maxRecDepth 10000 in
theorem look_eqV (h : MapV w b n f) (T e : TypeId) (z : Value) (ht : Try.prog.underlying T = some (.map 3 e)) (hz : (zeroValue e).run Try.prog w = .ok z w) (k : Int) (hk : (Lit.int .i64 k).wf = true) : (Instr.lookup T (.map (some b)) (.int .i64 k) false).run Try.prog w = .ok ((f k).getD z) w := by
  obtain ⟨D, h1, h2⟩ := h
  obtain ⟨v, ps, hrun, hR⟩ := h1.lookup key3 ht hz (zd := .held z) (zp := []) rfl (keyOf_int_mk Try.underlying3 hk)
  rw [MapV.at_ h2] at hR
  simp only [rawElem, Option.some.injEq, Prod.mk.injEq, DataW.held.injEq] at hR
  rw [hrun, hR.1]
set_option maxRecDepth 10000 in
theorem look_okV (h : MapV w b n f) (T e : TypeId) (z : Value) (ht : Try.prog.underlying T = some (.map 3 e)) (hz : (zeroValue e).run Try.prog w = .ok z w) (k : Int) (hk : (Lit.int .i64 k).wf = true) : (Instr.lookup T (.map (some b)) (.int .i64 k) true).run Try.prog w = .ok (.tuple #[(f k).getD z, .bool (f k).isSome]) w := by
  obtain ⟨D, h1, h2⟩ := h
  obtain ⟨v, ps, hrun, hR⟩ := h1.look_ok key3 ht hz (zd := .held z) (zp := []) rfl (keyOf_int_mk Try.underlying3 hk)
  rw [MapV.at_ h2] at hR
  simp only [rawElem, Option.some.injEq, Prod.mk.injEq, DataW.held.injEq] at hR
  rw [hrun, hR.1, (h2 k).1]
end
section
variable {ops : Array Oper} {rest : List Oper} {o : Oper} {a : Act} {w W : World} {Q : Exit → Act → World → Prop} {T e b n : Nat} {f : Int → Option Value} {x y z : Operand} {k : Int} {v : Value} {S : List Nat} {L : List Ent}
theorem map_storeV (M : MapV W b n f) (T e : TypeId) (ht : Try.prog.underlying T = some (.map 3 e)) (hg : o.guard = none) (ho : o.op = .mapUpdate T x y z) (hx : a.eval x = .map (some b)) (hy : a.eval y = .int .i64 k) (hk : (Lit.int .i64 k).wf = true)
    (hz : a.eval z = v) (hn : n < maxLen)
    (hK : ∀ u, Keeps W u [b] → MapV u b (n + 1) (updI f k (some v)) → wpList Try.prog ops Q rest (a.put o.dst undef) u) : wpList Try.prog ops Q (o :: rest) a W := by
  obtain ⟨D, h1, h2⟩ := M
  refine wpList_mapUpdate_own _ hg _ _ _ T ho 3 e key3 ht _ b n D hx h1 hn _ _ _ hy hz (keyOf_int_mk Try.underlying3 hk) (.held v) [] rfl fun u m g => hK u (keeps_of_grown g) ⟨_, m, fun j => ?_⟩
  by_cases hj : j = k
  · subst hj
    rw [updI_same, Maps.has_put_same (k := .int .i64 j) h1.isMap True.intro]
    exact ⟨rfl, fun v' hv z => by rw [Maps.atKey_put_same (k := .int .i64 j) h1.isMap True.intro, Option.some.inj hv]⟩
  · rw [updI_other _ _ _ _ hj, Maps.has_put_other (fun e => hj (by injection e))]
    exact ⟨(h2 j).1, fun v' hv z => by rw [Maps.atKey_put_other (fun e => hj (by injection e)), (h2 j).2 v' hv]⟩
theorem own_makeMapV (d : Nat) (O : Own w W S L) (_hd : o.dst = some d) (hgd : o.guard = none) (ho : o.op = .makeMap T none)
    (h : ∀ u b, Own w u S L → Keeps W u [] → MapV u b 0 (fun _ => none) → W.heap.size ≤ b → wpList Try.prog ops Q rest (a.put o.dst (.map (some b))) u) : wpList Try.prog ops Q (o :: rest) a W := by
  refine wpList_plain hgd fun K hK => ?_
  have k := (Keeps.refl W []).alloc (.map #[] 0)
  unfold Oper.wp execOp
  simp only [ho, Sem.run_bind, Sem.run_pure]
  exact hK _ _ (h _ _ (O.keeps k) k (MapV.made W) (Nat.le_refl _))
end
section
variable {ops : Array Oper} {rest : List Oper} {o : Oper} {a : Act} {w W : World} {Q : Exit → Act → World → Prop} {T : TypeId} {x : Operand} {S : List Nat} {L : List Ent}
theorem own_boxK (d : Nat) (cs : Array Value) (O : Own w W S L) (_hd : o.dst = some d) (hgd : o.guard = none) (ho : o.op = .box T x) (hx : a.eval x = .agg cs)
    (h : ∀ u g, Own w u S ((g, T, cs) :: L) → Keeps W u [] → W.heap.size ≤ g → wpList Try.prog ops Q rest (a.put o.dst (.pointer (some ⟨g, 0, none⟩))) u) : wpList Try.prog ops Q (o :: rest) a W :=
  wpList_box d cs _hd hgd ho hx fun u k b _ => h u _ (O.add k b) k (Nat.le_refl _)
end
theorem zero25 (w : World) : (zeroValue 25).run Try.prog w = .ok (.slice none 0 0) w := by kernel_rfl
def linksC (rooms : Value) (mb : Nat → Nat) : Array Value := #[rooms, .map (some (mb 4)), .map (some (mb 5)), .map (some (mb 0)), .map (some (mb 1)), .map (some (mb 6)), .map (some (mb 2)), .map (some (mb 3))]
def rowV (f : Nat → Int → Option Value) (i : Nat) (a : Int) : Value := (f i a).getD (.slice none 0 0)
structure LinksAt (W : World) (F : List Nat) (rooms : Value) (p : Nat) (mb : Nat → Nat) (f : Nat → Int → Option Value) (k : Lk) (m base : Nat) : Prop where
  blk : Blk W p 161 (linksC rooms mb)
  maps : ∀ i, i < 7 → MapV W (mb i) m (f i)
  rows : ∀ i, i < 4 → ∀ a, HRow base W (rowV f i a) (k.rows i a)
  ones : ∀ i, 4 ≤ i → i < 7 → ∀ a, f i a = (k.ones i a).map (Value.int .i64)
  ne : ∀ i i', i < 7 → i' < 7 → i ≠ i' → mb i ≠ mb i'
  inM : ∀ i, i < 7 → mb i ∈ F
  inR : ∀ i, i < 4 → ∀ a g, (rowV f i a).ownBlock = some g → g ∈ F
  pF : p ∉ F
  ltF : ∀ b ∈ F, base ≤ b ∧ b < W.heap.size
  ap : ∀ i i' a a', i < 4 → i' < 4 → (i ≠ i' ∨ a ≠ a') → ∀ g, (rowV f i a).ownBlock = some g → (rowV f i' a').ownBlock ≠ some g
section
variable {W u W1 : World} {F S : List Nat} {rooms : Value} {p : Nat} {mb : Nat → Nat} {f : Nat → Int → Option Value} {k : Lk} {m base : Nat}
theorem LinksAt.kept (h : LinksAt W F rooms p mb f k m base) (K : Keeps W u S) (hS : ∀ b ∈ S, b ∉ F ∧ b ≠ p) : LinksAt u F rooms p mb f k m base :=
  ⟨h.blk.keeps K fun hm => (hS p hm).2 rfl, fun i hi => (h.maps i hi).keeps K fun hm => (hS _ hm).1 (h.inM i hi), fun i hi a => (h.rows i hi a).keeps K fun g hg hm => (hS g hm).1 (h.inR i hi a g hg), h.ones, h.ne, h.inM, h.inR, h.pF, fun b hb => ⟨(h.ltF b hb).1, Nat.lt_of_lt_of_le (h.ltF b hb).2 K.size⟩, h.ap⟩
theorem LinksAt.mono (h : LinksAt W F rooms p mb f k m base) {m' : Nat} (hm : m ≤ m') : LinksAt W F rooms p mb f k m' base := { h with maps := fun i hi => (h.maps i hi).mono hm }
/-- One map of numbers is written. -/
theorem LinksAt.setOne (h : LinksAt W F rooms p mb f k m base) {i : Nat} (hi : 4 ≤ i) (h7 : i < 7) {a x : Int} (K : Keeps W u [mb i]) (M : MapV u (mb i) (m + 1) (updI (f i) a (some (.int .i64 x)))) :
    LinksAt u F rooms p mb (updN f i (updI (f i) a (some (.int .i64 x)))) ⟨k.rows, updN k.ones i (updI (k.ones i) a (some x))⟩ (m + 1) base := by
  have hr : ∀ j, j < 4 → ∀ a', rowV (updN f i (updI (f i) a (some (.int .i64 x)))) j a' = rowV f j a' := fun j hj a' => by
    unfold rowV updN
    rw [if_neg (by omega)]
  refine ⟨h.blk.keeps K (by simpa using (h.maps i h7).not_blk h.blk), fun j hj => ?_, fun j hj a' => ?_, fun j hj hj7 a' => ?_, h.ne, h.inM, fun j hj a' g hg => h.inR j hj a' g (by rwa [hr j hj] at hg), h.pF, fun b hb => ⟨(h.ltF b hb).1, Nat.lt_of_lt_of_le (h.ltF b hb).2 K.size⟩, fun j j' a' a'' hj hj' hne g hg => ?_⟩
  · by_cases e : j = i
    · subst e; unfold updN; rw [if_pos rfl]; exact M
    · unfold updN; rw [if_neg e]
      exact ((h.maps j hj).keeps K (by simpa using h.ne j i hj h7 e)).mono (by omega)
  · rw [hr j hj]
    refine (h.rows j hj a').keeps K fun g hg hm => ?_
    obtain rfl : g = mb i := by simpa using hm
    obtain ⟨_, cur, hb⟩ := (h.rows j hj a').own hg
    exact (h.maps i h7).not_blk hb rfl
  · by_cases e : j = i
    · subst e
      simp only [updN, if_true]
      by_cases ea : a' = a
      · subst ea; rw [updI_same, updI_same]; rfl
      · rw [updI_other _ _ _ _ ea, updI_other _ _ _ _ ea]; exact h.ones j hj hj7 a'
    · simp only [updN, if_neg e]; exact h.ones j hj hj7 a'
  · rw [hr j hj] at hg
    rw [hr j' hj']
    exact h.ap j j' a' a'' hj hj' hne g hg
/-- One row has grown, or is another, and its map is written. -/
theorem LinksAt.setRow (h : LinksAt W F rooms p mb f k m base) {i : Nat} (hi : i < 4) {a : Int} {v' : Value} {xs' : List Int} (K1 : Keeps W W1 ((rowV f i a).ownBlock.toList)) (hv : HRow base W1 v' xs')
    (hfr : v'.ownBlock = (rowV f i a).ownBlock ∨ ∀ g, v'.ownBlock = some g → W.heap.size ≤ g) (K2 : Keeps W1 u [mb i]) (M : MapV u (mb i) (m + 1) (updI (f i) a (some v'))) :
    LinksAt u (v'.ownBlock.toList ++ F) rooms p mb (updN f i (updI (f i) a (some v'))) ⟨updN k.rows i (updI (k.rows i) a xs'), k.ones⟩ (m + 1) base := by
  have hi7 : i < 7 := by omega
  have hM1 : ∀ j, j < 7 → ∀ g, (rowV f i a).ownBlock = some g → mb j ≠ g := fun j hj g hg => by
    obtain ⟨_, cur, hb⟩ := (h.rows i hi a).own hg
    exact ((h.maps j hj).not_blk hb).symm
  have maps1 : ∀ j, j < 7 → MapV W1 (mb j) m (f j) := fun j hj => (h.maps j hj).keeps K1 fun hm => hM1 j hj _ (by simpa using hm) rfl
  have hnew : ∀ g, v'.ownBlock = some g → g ∈ F ∨ W.heap.size ≤ g := fun g hg => by
    rcases hfr with e | e
    · exact .inl (h.inR i hi a g (by rw [← e]; exact hg))
    · exact .inr (e g hg)
  have hp : p < W.heap.size := h.blk.lt
  have same : ∀ a', a' = a → rowV (updN f i (updI (f i) a (some v'))) i a' = v' := fun a' e => by
    subst e; simp [rowV, updN, updI]
  have oth : ∀ j a', (j ≠ i ∨ a' ≠ a) → rowV (updN f i (updI (f i) a (some v'))) j a' = rowV f j a' := fun j a' hne => by
    unfold rowV updN
    by_cases e : j = i
    · subst e
      rw [if_pos rfl, updI_other _ _ _ _ (by rcases hne with h | h; exact absurd rfl h; exact h)]
    · rw [if_neg e]
  have keep : ∀ j a', j < 4 → (j ≠ i ∨ a' ≠ a) → HRow base u (rowV f j a') (k.rows j a') := fun j a' hj hne => by
    have h1 := (h.rows j hj a').keeps K1 fun g hg hm => by
      have hm' : (rowV f i a).ownBlock = some g := by simpa using hm
      exact h.ap j i a' a hj hi hne g hg hm'
    refine h1.keeps K2 fun g hg hm => ?_
    obtain rfl : g = mb i := by simpa using hm
    obtain ⟨_, cur, hb⟩ := h1.own hg
    exact (maps1 i hi7).not_blk hb rfl
  have hvu : HRow base u v' xs' := hv.keeps K2 fun g hg hm => by
    obtain rfl : g = mb i := by simpa using hm
    obtain ⟨_, cur, hb⟩ := hv.own hg
    exact (maps1 i hi7).not_blk hb rfl
  refine ⟨(h.blk.keeps K1 fun hm => h.pF (h.inR i hi a p (by simpa using hm))).keeps K2 fun hm => ?_, fun j hj => ?_, fun j hj a' => ?_, fun j hj hj7 a' => ?_, h.ne, fun j hj => by simp [h.inM j hj], fun j hj a' g hg => ?_, ?_, fun b hb => ?_, fun j j' a' a'' hj hj' hne g hg => ?_⟩
  · obtain rfl : p = mb i := by simpa using hm
    exact h.pF (h.inM i hi7)
  · by_cases e : j = i
    · subst e; unfold updN; rw [if_pos rfl]; exact M
    · unfold updN; rw [if_neg e]
      exact ((maps1 j hj).keeps K2 (by simpa using h.ne j i hj hi7 e)).mono (by omega)
  · by_cases e : j = i ∧ a' = a
    · obtain ⟨rfl, rfl⟩ := e
      rw [same a' rfl]
      simpa [updN, updI] using hvu
    · have hne : j ≠ i ∨ a' ≠ a := by
        by_cases e1 : j = i
        · exact .inr fun e2 => e ⟨e1, e2⟩
        · exact .inl e1
      rw [oth j a' hne]
      have e3 : (updN k.rows i (updI (k.rows i) a xs')) j a' = k.rows j a' := by
        unfold updN
        by_cases e1 : j = i
        · subst e1
          rw [if_pos rfl, updI_other _ _ _ _ (by rcases hne with h | h; exact absurd rfl h; exact h)]
        · rw [if_neg e1]
      show HRow base u _ ((updN k.rows i (updI (k.rows i) a xs')) j a')
      rw [e3]
      exact keep j a' hj hne
  · simp only [updN, if_neg (show j ≠ i by omega)]
    exact h.ones j hj hj7 a'
  · by_cases e : j = i ∧ a' = a
    · obtain ⟨rfl, rfl⟩ := e
      rw [same a' rfl] at hg
      simp [hg]
    · rw [oth j a' (by
        by_cases e1 : j = i
        · exact .inr fun e2 => e ⟨e1, e2⟩
        · exact .inl e1)] at hg
      exact List.mem_append_right _ (h.inR j hj a' g hg)
  · intro hm
    rcases List.mem_append.1 hm with hm | hm
    · rcases hnew p (by simpa using hm) with h1 | h1
      · exact h.pF h1
      · omega
    · exact h.pF hm
  · rcases List.mem_append.1 hb with hm | hm
    · obtain ⟨hb1, cur, hb2⟩ := hvu.own (g := b) (by simpa using hm)
      exact ⟨hb1, hb2.lt⟩
    · have := h.ltF b hm
      have := K1.size
      have := K2.size
      omega
  · have cross : ∀ g j' a'', v'.ownBlock = some g → j' < 4 → (j' ≠ i ∨ a'' ≠ a) → (rowV f j' a'').ownBlock ≠ some g := fun g j' a'' hg hj' hne e => by
      rcases hfr with e' | e'
      · exact h.ap j' i a'' a hj' hi hne g e (by rw [← e']; exact hg)
      · have h1 := e' g hg
        have h2 := (h.ltF g (h.inR j' hj' a'' g e)).2
        omega
    have dec : ∀ j a', (j = i ∧ a' = a) ∨ (j ≠ i ∨ a' ≠ a) := fun j a' => by
      by_cases e1 : j = i
      · by_cases e2 : a' = a
        · exact .inl ⟨e1, e2⟩
        · exact .inr (.inr e2)
      · exact .inr (.inl e1)
    rcases dec j a' with ⟨rfl, rfl⟩ | e1
    · rcases dec j' a'' with ⟨rfl, rfl⟩ | e2
      · rcases hne with h | h <;> exact absurd rfl h
      · rw [same _ rfl] at hg
        rw [oth _ _ e2]
        exact cross g j' a'' hg hj' e2
    · rcases dec j' a'' with ⟨rfl, rfl⟩ | e2
      · rw [oth _ _ e1] at hg
        rw [same _ rfl]
        intro e
        exact cross g j a' e hj e1 hg
      · rw [oth _ _ e1] at hg
        rw [oth _ _ e2]
        exact h.ap j j' a' a'' hj hj' hne g hg
end
section
variable {w : World} {S : Sys} {A : Option Addr} {c : Nat} {R : Option Addr} {d : Nat}
theorem linksC_cell (rooms : Value) (mb : Nat → Nat) (h : rooms.oneCell' = true) : ∀ v ∈ (linksC rooms mb).toList, v.oneCell' = true := by
  intro v hv
  simp only [linksC, List.mem_cons, List.not_mem_nil, or_false] at hv
  rcases hv with rfl | rfl | rfl | rfl | rfl | rfl | rfl | rfl <;> first | exact h | rfl
set_option maxRecDepth 100000 in
theorem newLinks_any : Calls Try.prog 69 #[.agg (sysV S A c R d)] w fun e W => (∃ p F mb f, e = .returned (.pointer (some ⟨p, 0, none⟩)) ∧ LinksAt W F (.slice R S.nr d) p mb f lk0 0 w.heap.size ∧ w.heap.size ≤ p) ∧ Keeps w W [] := by
  have O := Own.start w []
  go_enter Try.func69, Try.ntmps69
  go_wp2_with (first
    | (refine own_box 1 (sysV S A c R d) O rfl rfl rfl rfl ?_; clear O; intro W a1 O; simp only [Act.put, List.setIfInBounds_toArray, List.set_cons_zero, List.set_cons_succ]; have c1 : W.cell? ⟨a1, 1, none⟩ = some (.slice R S.nr d) := (O.get 0 rfl).cell 1)
    | (refine at_dst 5 rfl ?_; have HW := O.keep.size; refine own_makeMapV 5 O rfl rfl rfl ?_; clear O; intro W b5 O Kx M5 hb; have z5 : w.heap.size ≤ b5 := Nat.le_trans HW hb; clear HW Kx hb c1; simp only [Act.put, List.setIfInBounds_toArray, List.set_cons_zero, List.set_cons_succ])
    | (refine at_dst 6 rfl ?_; have HW := O.keep.size; refine own_makeMapV 6 O rfl rfl rfl ?_; clear O; intro W b6 O Kx M6 hb; have n5_6 : b5 < b6 := Nat.lt_of_lt_of_le M5.lt hb; replace M5 := M5.keeps Kx (by simp); have z6 : w.heap.size ≤ b6 := Nat.le_trans HW hb; clear HW Kx hb; simp only [Act.put, List.setIfInBounds_toArray, List.set_cons_zero, List.set_cons_succ])
    | (refine at_dst 7 rfl ?_; have HW := O.keep.size; refine own_makeMapV 7 O rfl rfl rfl ?_; clear O; intro W b7 O Kx M7 hb; have n5_7 : b5 < b7 := Nat.lt_of_lt_of_le M5.lt hb; replace M5 := M5.keeps Kx (by simp); have n6_7 : b6 < b7 := Nat.lt_of_lt_of_le M6.lt hb; replace M6 := M6.keeps Kx (by simp); have z7 : w.heap.size ≤ b7 := Nat.le_trans HW hb; clear HW Kx hb; simp only [Act.put, List.setIfInBounds_toArray, List.set_cons_zero, List.set_cons_succ])
    | (refine at_dst 8 rfl ?_; have HW := O.keep.size; refine own_makeMapV 8 O rfl rfl rfl ?_; clear O; intro W b8 O Kx M8 hb; have n5_8 : b5 < b8 := Nat.lt_of_lt_of_le M5.lt hb; replace M5 := M5.keeps Kx (by simp); have n6_8 : b6 < b8 := Nat.lt_of_lt_of_le M6.lt hb; replace M6 := M6.keeps Kx (by simp); have n7_8 : b7 < b8 := Nat.lt_of_lt_of_le M7.lt hb; replace M7 := M7.keeps Kx (by simp); have z8 : w.heap.size ≤ b8 := Nat.le_trans HW hb; clear HW Kx hb; simp only [Act.put, List.setIfInBounds_toArray, List.set_cons_zero, List.set_cons_succ])
    | (refine at_dst 9 rfl ?_; have HW := O.keep.size; refine own_makeMapV 9 O rfl rfl rfl ?_; clear O; intro W b9 O Kx M9 hb; have n5_9 : b5 < b9 := Nat.lt_of_lt_of_le M5.lt hb; replace M5 := M5.keeps Kx (by simp); have n6_9 : b6 < b9 := Nat.lt_of_lt_of_le M6.lt hb; replace M6 := M6.keeps Kx (by simp); have n7_9 : b7 < b9 := Nat.lt_of_lt_of_le M7.lt hb; replace M7 := M7.keeps Kx (by simp); have n8_9 : b8 < b9 := Nat.lt_of_lt_of_le M8.lt hb; replace M8 := M8.keeps Kx (by simp); have z9 : w.heap.size ≤ b9 := Nat.le_trans HW hb; clear HW Kx hb; simp only [Act.put, List.setIfInBounds_toArray, List.set_cons_zero, List.set_cons_succ])
    | (refine at_dst 10 rfl ?_; have HW := O.keep.size; refine own_makeMapV 10 O rfl rfl rfl ?_; clear O; intro W b10 O Kx M10 hb; have n5_10 : b5 < b10 := Nat.lt_of_lt_of_le M5.lt hb; replace M5 := M5.keeps Kx (by simp); have n6_10 : b6 < b10 := Nat.lt_of_lt_of_le M6.lt hb; replace M6 := M6.keeps Kx (by simp); have n7_10 : b7 < b10 := Nat.lt_of_lt_of_le M7.lt hb; replace M7 := M7.keeps Kx (by simp); have n8_10 : b8 < b10 := Nat.lt_of_lt_of_le M8.lt hb; replace M8 := M8.keeps Kx (by simp); have n9_10 : b9 < b10 := Nat.lt_of_lt_of_le M9.lt hb; replace M9 := M9.keeps Kx (by simp); have z10 : w.heap.size ≤ b10 := Nat.le_trans HW hb; clear HW Kx hb; simp only [Act.put, List.setIfInBounds_toArray, List.set_cons_zero, List.set_cons_succ])
    | (refine at_dst 11 rfl ?_; have HW := O.keep.size; refine own_makeMapV 11 O rfl rfl rfl ?_; clear O; intro W b11 O Kx M11 hb; have n5_11 : b5 < b11 := Nat.lt_of_lt_of_le M5.lt hb; replace M5 := M5.keeps Kx (by simp); have n6_11 : b6 < b11 := Nat.lt_of_lt_of_le M6.lt hb; replace M6 := M6.keeps Kx (by simp); have n7_11 : b7 < b11 := Nat.lt_of_lt_of_le M7.lt hb; replace M7 := M7.keeps Kx (by simp); have n8_11 : b8 < b11 := Nat.lt_of_lt_of_le M8.lt hb; replace M8 := M8.keeps Kx (by simp); have n9_11 : b9 < b11 := Nat.lt_of_lt_of_le M9.lt hb; replace M9 := M9.keeps Kx (by simp); have n10_11 : b10 < b11 := Nat.lt_of_lt_of_le M10.lt hb; replace M10 := M10.keeps Kx (by simp); have z11 : w.heap.size ≤ b11 := Nat.le_trans HW hb; clear HW Kx hb; simp only [Act.put, List.setIfInBounds_toArray, List.set_cons_zero, List.set_cons_succ])
    | (refine wpList_const 12 (.agg (linksC (.slice R S.nr d) fun i => [b7, b8, b10, b11, b5, b6, b9].getD i 0)) rfl rfl (fun _ => by kernel_rfl) ?_; simp only [Act.put, List.setIfInBounds_toArray, List.set_cons_zero, List.set_cons_succ])
    | (refine at_dst 13 rfl ?_; have HW := O.keep.size; refine own_boxK 13 (linksC (.slice R S.nr d) fun i => [b7, b8, b10, b11, b5, b6, b9].getD i 0) O rfl rfl rfl rfl ?_; intro u p O2 Kx hp; simp only [Act.put, List.setIfInBounds_toArray, List.set_cons_zero, List.set_cons_succ])
    | go_big_skip)
  have nd : [b7, b8, b10, b11, b5, b6, b9].Nodup := by
    simp only [List.nodup_cons, List.mem_cons, List.not_mem_nil, or_false, not_or, List.nodup_nil, and_true, not_false_eq_true]
    omega
  have hlt : ∀ b ∈ [b7, b8, b10, b11, b5, b6, b9], w.heap.size ≤ b ∧ b < W.heap.size := by
    have := M5.lt; have := M6.lt; have := M7.lt; have := M8.lt; have := M9.lt; have := M10.lt; have := M11.lt
    intro b hb
    simp only [List.mem_cons, List.not_mem_nil, or_false] at hb
    omega
  go_ret
  refine ⟨⟨p, [b7, b8, b10, b11, b5, b6, b9], _, fun _ _ => none, rfl, ⟨O2.get 0 rfl, fun i hi => ?_, fun i _ a => HRow.nil _ _, fun i _ _ a => rfl, fun i i' hi hi' hne e => ?_, fun i hi => ?_, fun i _ a g hg => (by cases hg), fun hm => ?_, fun b hb => ?_, fun i i' a a' _ _ _ g hg => (by cases hg)⟩, Nat.le_trans HW hp⟩, O2.keep⟩
  · match i, hi with
    | 0, _ => exact M7.keeps Kx (by simp)
    | 1, _ => exact M8.keeps Kx (by simp)
    | 2, _ => exact M10.keeps Kx (by simp)
    | 3, _ => exact M11.keeps Kx (by simp)
    | 4, _ => exact M5.keeps Kx (by simp)
    | 5, _ => exact M6.keeps Kx (by simp)
    | 6, _ => exact M9.keeps Kx (by simp)
  · have hp := List.pairwise_iff_getElem.1 nd
    simp only [List.getD_eq_getElem?_getD, List.getElem?_eq_getElem (show i < [b7, b8, b10, b11, b5, b6, b9].length from hi), List.getElem?_eq_getElem (show i' < [b7, b8, b10, b11, b5, b6, b9].length from hi'), Option.getD_some] at e
    rcases Nat.lt_or_gt_of_ne hne with h | h
    · exact hp i i' hi hi' h e
    · exact hp i' i hi' hi h e.symm
  · simp only [List.getD_eq_getElem?_getD, List.getElem?_eq_getElem (show i < [b7, b8, b10, b11, b5, b6, b9].length from hi), Option.getD_some]
    exact List.getElem_mem _
  · have := hlt p hm
    omega
  · have := hlt b hb
    have := Kx.size
    omega
end
end Go.Proofs.Ytakmcpadkanggaa
namespace Go.Proofs
open Go.Shelf
def Try.lays128_ren : Go.Shelf.Ren := ⟨fun | 128 => 121 | n => n, fun | 51 => 196 | 3 => 3 | 4 => 4 | 46 => 184 | 5 => 5 | 9 => 9 | n => n, fun | n => n⟩
theorem Try.lays128 : Go.Proofs.Lays.n128 Try.prog Try.lays128_ren := {
  mixed := by kernel_rfl
  f128 := Try.func121.trans (congrArg some (by kernel_rfl))
  t3 := Try.underlying3
  a3 := Try.isAgg3
  z3 := Try.sizeOf3
  v3 := Try.zeroValue3
  t4 := Try.underlying4
  a4 := Try.isAgg4
  z4 := Try.sizeOf4
  v4 := Try.zeroValue4
  t5 := Try.underlying5
  a5 := Try.isAgg5
  z5 := Try.sizeOf5
  v5 := Try.zeroValue5
  t9 := Try.underlying9
  a9 := Try.isAgg9
  z9 := Try.sizeOf9
  v9 := Try.zeroValue9
  t46 := Try.underlying184
  a46 := Try.isAgg184
  z46 := Try.sizeOf184
  v46 := Try.zeroValue184
  t51 := Try.underlying196
  a51 := Try.isAgg196
  z51 := Try.sizeOf196
  v51 := Try.zeroValue196 }
theorem Try.bits_Len32 (x : Int) (w : World) (h0 : 0 ≤ x) (h1 : x ≤ 4294967295) :
    Calls Try.prog 121 #[.int .u32 x] w fun e w' => e = .returned (.int .i64 (Lib.bitLen x.toNat)) ∧ w' = w := Any.bits_Len32 Try.lays128 x w h0 h1
def Try.lays125_ren : Go.Shelf.Ren := ⟨fun | 125 => 111 | 128 => 121 | 129 => 122 | n => n, fun | 46 => 184 | 3 => 3 | 51 => 196 | 53 => 198 | 4 => 4 | 5 => 5 | 9 => 9 | n => n, fun | n => n⟩
theorem Try.lays125 : Go.Proofs.Lays.n125 Try.prog Try.lays125_ren := {
  mixed := by kernel_rfl
  f125 := Try.func111.trans (congrArg some (by kernel_rfl))
  f128 := Try.func121.trans (congrArg some (by kernel_rfl))
  f129 := Try.func122.trans (congrArg some (by kernel_rfl))
  t3 := Try.underlying3
  a3 := Try.isAgg3
  z3 := Try.sizeOf3
  v3 := Try.zeroValue3
  t4 := Try.underlying4
  a4 := Try.isAgg4
  z4 := Try.sizeOf4
  v4 := Try.zeroValue4
  t5 := Try.underlying5
  a5 := Try.isAgg5
  z5 := Try.sizeOf5
  v5 := Try.zeroValue5
  t9 := Try.underlying9
  a9 := Try.isAgg9
  z9 := Try.sizeOf9
  v9 := Try.zeroValue9
  t46 := Try.underlying184
  a46 := Try.isAgg184
  z46 := Try.sizeOf184
  v46 := Try.zeroValue184
  t51 := Try.underlying196
  a51 := Try.isAgg196
  z51 := Try.sizeOf196
  v51 := Try.zeroValue196
  t53 := Try.underlying198
  a53 := Try.isAgg198
  z53 := Try.sizeOf198
  v53 := Try.zeroValue198 }
theorem Try.bits_Len (x : Int) (w : World) (h0 : 0 ≤ x) (h1 : x ≤ 18446744073709551615) :
    Calls Try.prog 111 #[.int .u64 x] w fun e w' => e = .returned (.int .i64 (Lib.bitLen x.toNat)) ∧ w' = w := Any.bits_Len Try.lays125 x w h0 h1
def Try.lays215_ren : Go.Shelf.Ren := ⟨fun | 215 => 128 | n => n, fun | 3 => 3 | 4 => 4 | n => n, fun | n => n⟩
theorem Try.lays215 : Go.Proofs.Lays.n215 Try.prog Try.lays215_ren := {
  mixed := by kernel_rfl
  f215 := Try.func128.trans (congrArg some (by kernel_rfl))
  t3 := Try.underlying3
  a3 := Try.isAgg3
  z3 := Try.sizeOf3
  v3 := Try.zeroValue3
  t4 := Try.underlying4
  a4 := Try.isAgg4
  z4 := Try.sizeOf4
  v4 := Try.zeroValue4 }
open Go.RowKit in
theorem Try.cmp_isNaN_int (x : Int) (w : World) :
    Calls Try.prog 128 #[.int .i64 x] w fun e w' => e = .returned (.bool false) ∧ w' = w := Any.cmp_isNaN_int Try.lays215 x w
def Try.lays129_ren : Go.Shelf.Ren := ⟨fun | 129 => 122 | n => n, fun | 53 => 198 | 3 => 3 | 4 => 4 | 46 => 184 | 5 => 5 | 9 => 9 | n => n, fun | n => n⟩
theorem Try.lays129 : Go.Proofs.Lays.n129 Try.prog Try.lays129_ren := {
  mixed := by kernel_rfl
  f129 := Try.func122.trans (congrArg some (by kernel_rfl))
  t3 := Try.underlying3
  a3 := Try.isAgg3
  z3 := Try.sizeOf3
  v3 := Try.zeroValue3
  t4 := Try.underlying4
  a4 := Try.isAgg4
  z4 := Try.sizeOf4
  v4 := Try.zeroValue4
  t5 := Try.underlying5
  a5 := Try.isAgg5
  z5 := Try.sizeOf5
  v5 := Try.zeroValue5
  t9 := Try.underlying9
  a9 := Try.isAgg9
  z9 := Try.sizeOf9
  v9 := Try.zeroValue9
  t46 := Try.underlying184
  a46 := Try.isAgg184
  z46 := Try.sizeOf184
  v46 := Try.zeroValue184
  t53 := Try.underlying198
  a53 := Try.isAgg198
  z53 := Try.sizeOf198
  v53 := Try.zeroValue198 }
theorem Try.bits_Len64 (x : Int) (w : World) (h0 : 0 ≤ x) (h1 : x ≤ 18446744073709551615) :
    Calls Try.prog 122 #[.int .u64 x] w fun e w' => e = .returned (.int .i64 (Lib.bitLen x.toNat)) ∧ w' = w := Any.bits_Len64 Try.lays129 x w h0 h1
def Try.lays189_ren : Go.Shelf.Ren := ⟨fun | 189 => 95 | 125 => 111 | 257 => 110 | 128 => 121 | 129 => 122 | 294 => 112 | 295 => 113 | 296 => 114 | 297 => 115 | 298 => 116 | 299 => 117 | 216 => 118 | 300 => 119 | 301 => 120 | 328 => 123 | 329 => 124 | 330 => 125 | 331 => 126 | 332 => 127 | 215 => 128 | 343 => 129 | n => n, fun | 28 => 25 | 3 => 3 | 46 => 184 | 0 => 0 | 51 => 196 | 53 => 198 | 4 => 4 | 183 => 190 | 182 => 189 | 131 => 139 | 5 => 5 | 9 => 9 | 218 => 199 | 222 => 203 | 228 => 205 | 229 => 113 | n => n, fun | n => n⟩
theorem Try.lays189 : Go.Proofs.Lays.n189 Try.prog Try.lays189_ren := {
  mixed := by kernel_rfl
  f125 := Try.func111.trans (congrArg some (by kernel_rfl))
  f128 := Try.func121.trans (congrArg some (by kernel_rfl))
  f129 := Try.func122.trans (congrArg some (by kernel_rfl))
  f189 := Try.func95.trans (congrArg some (by kernel_rfl))
  f215 := Try.func128.trans (congrArg some (by kernel_rfl))
  f216 := Try.func118.trans (congrArg some (by kernel_rfl))
  f257 := Try.func110.trans (congrArg some (by kernel_rfl))
  f294 := Try.func112.trans (congrArg some (by kernel_rfl))
  f295 := Try.func113.trans (congrArg some (by kernel_rfl))
  f296 := Try.func114.trans (congrArg some (by kernel_rfl))
  f297 := Try.func115.trans (congrArg some (by kernel_rfl))
  f298 := Try.func116.trans (congrArg some (by kernel_rfl))
  f299 := Try.func117.trans (congrArg some (by kernel_rfl))
  f300 := Try.func119.trans (congrArg some (by kernel_rfl))
  f301 := Try.func120.trans (congrArg some (by kernel_rfl))
  f328 := Try.func123.trans (congrArg some (by kernel_rfl))
  f329 := Try.func124.trans (congrArg some (by kernel_rfl))
  f330 := Try.func125.trans (congrArg some (by kernel_rfl))
  f331 := Try.func126.trans (congrArg some (by kernel_rfl))
  f332 := Try.func127.trans (congrArg some (by kernel_rfl))
  f343 := Try.func129.trans (congrArg some (by kernel_rfl))
  t0 := Try.underlying0
  a0 := Try.isAgg0
  z0 := Try.sizeOf0
  v0 := Try.zeroValue0
  t3 := Try.underlying3
  a3 := Try.isAgg3
  z3 := Try.sizeOf3
  v3 := Try.zeroValue3
  t4 := Try.underlying4
  a4 := Try.isAgg4
  z4 := Try.sizeOf4
  v4 := Try.zeroValue4
  t5 := Try.underlying5
  a5 := Try.isAgg5
  z5 := Try.sizeOf5
  v5 := Try.zeroValue5
  t9 := Try.underlying9
  a9 := Try.isAgg9
  z9 := Try.sizeOf9
  v9 := Try.zeroValue9
  t28 := Try.underlying25
  a28 := Try.isAgg25
  z28 := Try.sizeOf25
  v28 := Try.zeroValue25
  t46 := Try.underlying184
  a46 := Try.isAgg184
  z46 := Try.sizeOf184
  v46 := Try.zeroValue184
  t51 := Try.underlying196
  a51 := Try.isAgg196
  z51 := Try.sizeOf196
  v51 := Try.zeroValue196
  t53 := Try.underlying198
  a53 := Try.isAgg198
  z53 := Try.sizeOf198
  v53 := Try.zeroValue198
  t131 := Try.underlying139
  a131 := Try.isAgg139
  z131 := Try.sizeOf139
  v131 := Try.zeroValue139
  t182 := Try.underlying189
  a182 := Try.isAgg189
  z182 := Try.sizeOf189
  v182 := Try.zeroValue189
  t183 := Try.underlying190
  a183 := Try.isAgg190
  z183 := Try.sizeOf190
  v183 := Try.zeroValue190
  t218 := Try.underlying199
  a218 := Try.isAgg199
  z218 := Try.sizeOf199
  v218 := Try.zeroValue199
  t222 := Try.underlying203
  a222 := Try.isAgg203
  z222 := Try.sizeOf203
  v222 := Try.zeroValue203
  t228 := Try.underlying205
  a228 := Try.isAgg205
  z228 := Try.sizeOf205
  v228 := Try.zeroValue205
  t229 := Try.underlying113
  a229 := Try.isAgg113
  z229 := Try.sizeOf113
  v229 := Try.zeroValue113 }
open Go.Sort Go.RowKit in
theorem Try.slices_Sort_int (blk off cap : Nat) (zs : List Int) (w : World) (hH : Holds (Value.int .i64) w blk off zs.toArray) (hblk : blk < w.heap.size) (hsz : zs.length < 4611686018427387904) :
    Calls Try.prog 95 #[.slice (some ⟨blk, off, none⟩) zs.length cap] w fun e w' =>
      e = .returned (.tuple #[]) ∧ ∃ n os, w' = grow (putRow (Value.int .i64) (Sort.ahead w n) blk off (zs.mergeSort fun x y => decide (x ≤ y)).toArray) os := Any.slices_Sort_int Try.lays189 blk off cap zs w hH hblk hsz
def Try.lays108_ren : Go.Shelf.Ren := ⟨fun | 108 => 102 | n => n, fun | 28 => 25 | 3 => 3 | 0 => 0 | 4 => 4 | n => n, fun | n => n⟩
theorem Try.lays108 : Go.Proofs.Lays.n108 Try.prog Try.lays108_ren := {
  mixed := by kernel_rfl
  f108 := Try.func102.trans (congrArg some (by kernel_rfl))
  t0 := Try.underlying0
  a0 := Try.isAgg0
  z0 := Try.sizeOf0
  v0 := Try.zeroValue0
  t3 := Try.underlying3
  a3 := Try.isAgg3
  z3 := Try.sizeOf3
  v3 := Try.zeroValue3
  t4 := Try.underlying4
  a4 := Try.isAgg4
  z4 := Try.sizeOf4
  v4 := Try.zeroValue4
  t28 := Try.underlying25
  a28 := Try.isAgg25
  z28 := Try.sizeOf25
  v28 := Try.zeroValue25 }
open Go.Lib in
theorem Try.slices_Index_int (b off n c : Nat) (zs : List Int) (x : Int) (w : World) (hz : n ≤ zs.length) (hbig : n ≤ 9223372036854775807) (hc : ∀ j, j < zs.length → w.cell? ⟨b, off + j, none⟩ = some (.int .i64 (zs.getD j 0))) :
    Calls Try.prog 102 #[.slice (some ⟨b, off, none⟩) n c, .int .i64 x] w fun e w' => e = .returned (.int .i64 (Lib.idxOf (zs.take n) x)) ∧ w' = w := Any.slices_Index_int Try.lays108 b off n c zs x w hz hbig hc
open Go.Lib in
theorem Try.slices_Index_int_empty (a : Option Addr) (c : Nat) (x : Int) (w : World) :
    Calls Try.prog 102 #[.slice a 0 c, .int .i64 x] w fun e w' => e = .returned (.int .i64 (Lib.idxOf [] x)) ∧ w' = w := Any.slices_Index_int_empty Try.lays108 a c x w
def Try.lays107_ren : Go.Shelf.Ren := ⟨fun | 107 => 81 | 108 => 102 | n => n, fun | 28 => 25 | 3 => 3 | 4 => 4 | 0 => 0 | n => n, fun | n => n⟩
theorem Try.lays107 : Go.Proofs.Lays.n107 Try.prog Try.lays107_ren := {
  mixed := by kernel_rfl
  f107 := Try.func81.trans (congrArg some (by kernel_rfl))
  f108 := Try.func102.trans (congrArg some (by kernel_rfl))
  t0 := Try.underlying0
  a0 := Try.isAgg0
  z0 := Try.sizeOf0
  v0 := Try.zeroValue0
  t3 := Try.underlying3
  a3 := Try.isAgg3
  z3 := Try.sizeOf3
  v3 := Try.zeroValue3
  t4 := Try.underlying4
  a4 := Try.isAgg4
  z4 := Try.sizeOf4
  v4 := Try.zeroValue4
  t28 := Try.underlying25
  a28 := Try.isAgg25
  z28 := Try.sizeOf25
  v28 := Try.zeroValue25 }
open Go.Lib in
theorem Try.slices_Contains_int (b off n c : Nat) (zs : List Int) (x : Int) (w : World) (hz : n ≤ zs.length) (hbig : n ≤ 9223372036854775807) (hc : ∀ j, j < zs.length → w.cell? ⟨b, off + j, none⟩ = some (.int .i64 (zs.getD j 0))) :
    Calls Try.prog 81 #[.slice (some ⟨b, off, none⟩) n c, .int .i64 x] w fun e w' => e = .returned (.bool ((zs.take n).contains x)) ∧ w' = w := Any.slices_Contains_int Try.lays107 b off n c zs x w hz hbig hc
open Go.Lib in
theorem Try.slices_Contains_int_empty (a : Option Addr) (c : Nat) (x : Int) (w : World) :
    Calls Try.prog 81 #[.slice a 0 c, .int .i64 x] w fun e w' => e = .returned (.bool false) ∧ w' = w := Any.slices_Contains_int_empty Try.lays107 a c x w
def Try.laysNm215_ren : Go.Shelf.Ren := ⟨fun | 15 => 74 | n => n, fun | 22 => 25 | 3 => 3 | 4 => 4 | n => n, fun | n => n⟩
theorem Try.laysNm215 : Go.Proofs.Lays2.n15 Try.prog Try.laysNm215_ren := {
  mixed := by kernel_rfl
  f15 := Try.func74.trans (congrArg some (by kernel_rfl))
  t3 := Try.underlying3
  a3 := Try.isAgg3
  z3 := Try.sizeOf3
  v3 := Try.zeroValue3
  t4 := Try.underlying4
  a4 := Try.isAgg4
  z4 := Try.sizeOf4
  v4 := Try.zeroValue4
  t22 := Try.underlying25
  a22 := Try.isAgg25
  z22 := Try.sizeOf25
  v22 := Try.zeroValue25
  i3 := by kernel_rfl }
open Go.RowKit Go.Lib in
theorem Try.slices_Clone_int (b off n c : Nat) (zs : List Int) (w : World) (hz : n ≤ zs.length) (hbig : n * 8 ≤ 140737488355328) (hc : ∀ j, j < zs.length → w.cell? ⟨b, off + j, none⟩ = some (.int .i64 (zs.getD j 0))) :
    Calls Try.prog 74 #[.slice (some ⟨b, off, none⟩) n c] w fun e w' => ∃ v', e = .returned v' ∧ w'.ownsRow w.heap.size 3 1 v' n ((zs.take n).map (Value.int .i64)) ∧ v' ≠ .slice none 0 0 ∧ Below w.heap.size w w' := Any.slices_Clone_int Try.laysNm215 b off n c zs w hz hbig hc
open Go.RowKit Go.Lib in
theorem Try.slices_Clone_int_nil (n c : Nat) (w : World) :
    Calls Try.prog 74 #[.slice none n c] w fun e w' => e = .returned (.slice none 0 0) ∧ w' = w := Any.slices_Clone_int_nil Try.laysNm215 n c w
open Go.RowKit Go.Lib in
theorem Try.slices_Clone_int_zero (a : Addr) (c : Nat) (w : World) :
    Calls Try.prog 74 #[.slice (some a) 0 c] w fun e w' => ∃ v', e = .returned v' ∧ w'.ownsRow w.heap.size 3 1 v' 0 [] ∧ v' ≠ .slice none 0 0 ∧ Below w.heap.size w w' := Any.slices_Clone_int_zero Try.laysNm215 a c w
def Try.laysNm220_ren : Go.Shelf.Ren := ⟨fun | 20 => 96 | n => n, fun | 22 => 25 | 3 => 3 | 4 => 4 | 0 => 0 | n => n, fun | n => n⟩
theorem Try.laysNm220 : Go.Proofs.Lays2.n20 Try.prog Try.laysNm220_ren := {
  mixed := by kernel_rfl
  f20 := Try.func96.trans (congrArg some (by kernel_rfl))
  t0 := Try.underlying0
  a0 := Try.isAgg0
  z0 := Try.sizeOf0
  v0 := Try.zeroValue0
  t3 := Try.underlying3
  a3 := Try.isAgg3
  z3 := Try.sizeOf3
  v3 := Try.zeroValue3
  t4 := Try.underlying4
  a4 := Try.isAgg4
  z4 := Try.sizeOf4
  v4 := Try.zeroValue4
  t22 := Try.underlying25
  a22 := Try.isAgg25
  z22 := Try.sizeOf25
  v22 := Try.zeroValue25
  i3 := by kernel_rfl }
open Go.RowKit Go.Lib Go.Sort in
theorem Try.slices_Compact_int_arr (blk off cap : Nat) (d : Array Int) (w : World) (hH : Holds encI w blk off d) (hsz : d.size ≤ 9223372036854775807) (hcap : d.size ≤ cap) :
    Calls Try.prog 96 #[.slice (some ⟨blk, off, none⟩) d.size cap] w fun e w' => e = .returned (.slice (some ⟨blk, off, none⟩) (compactUpTo d d.size).length cap) ∧ ∃ q, w' = putRow encI (Sort.ahead w q) blk off (compactUpTo d d.size ++ List.replicate (d.size - (compactUpTo d d.size).length) 0).toArray := Any.slices_Compact_int_arr Try.laysNm220 blk off cap d w hH hsz hcap
open Go.RowKit Go.Lib Go.Sort in
theorem Try.slices_Compact_int (blk off cap : Nat) (zs : List Int) (w : World) (hH : Holds (Value.int .i64) w blk off zs.toArray) (hsz : zs.length ≤ 9223372036854775807) (hcap : zs.length ≤ cap) :
    Calls Try.prog 96 #[.slice (some ⟨blk, off, none⟩) zs.length cap] w fun e w' => e = .returned (.slice (some ⟨blk, off, none⟩) (Lib.compact zs).length cap) ∧ ∃ q, w' = putRow (Value.int .i64) (Sort.ahead w q) blk off (Lib.compact zs ++ List.replicate (zs.length - (Lib.compact zs).length) 0).toArray := Any.slices_Compact_int Try.laysNm220 blk off cap zs w hH hsz hcap
open Go.RowKit Go.Lib Go.Sort in
theorem Try.slices_Compact_int_empty (a : Option Addr) (cap : Nat) (w : World) :
    Calls Try.prog 96 #[.slice a 0 cap] w fun e w' => e = .returned (.slice a 0 cap) ∧ w' = w := Any.slices_Compact_int_empty Try.laysNm220 a cap w
def Try.laysNm237_ren : Go.Shelf.Ren := ⟨fun | 37 => 128 | n => n, fun | 3 => 3 | 4 => 4 | n => n, fun | n => n⟩
theorem Try.laysNm237 : Go.Proofs.Lays2.n37 Try.prog Try.laysNm237_ren := {
  mixed := by kernel_rfl
  f37 := Try.func128.trans (congrArg some (by kernel_rfl))
  t3 := Try.underlying3
  a3 := Try.isAgg3
  z3 := Try.sizeOf3
  v3 := Try.zeroValue3
  t4 := Try.underlying4
  a4 := Try.isAgg4
  z4 := Try.sizeOf4
  v4 := Try.zeroValue4 }
open Go.RowKit Go.Lib in
theorem Try.cmp_isNaN_int2 (x : Int) (w : World) :
    Calls Try.prog 128 #[.int .i64 x] w fun e w' => e = .returned (.bool false) ∧ w' = w := Any.cmp_isNaN_int2 Try.laysNm237 x w
def Try.laysNm231_ren : Go.Shelf.Ren := ⟨fun | 31 => 118 | 37 => 128 | n => n, fun | 3 => 3 | 4 => 4 | n => n, fun | n => n⟩
theorem Try.laysNm231 : Go.Proofs.Lays2.n31 Try.prog Try.laysNm231_ren := {
  mixed := by kernel_rfl
  f31 := Try.func118.trans (congrArg some (by kernel_rfl))
  f37 := Try.func128.trans (congrArg some (by kernel_rfl))
  t3 := Try.underlying3
  a3 := Try.isAgg3
  z3 := Try.sizeOf3
  v3 := Try.zeroValue3
  t4 := Try.underlying4
  a4 := Try.isAgg4
  z4 := Try.sizeOf4
  v4 := Try.zeroValue4 }
open Go.RowKit Go.Lib in
theorem Try.cmp_Less_int2 (x y : Int) (w : World) :
    Calls Try.prog 118 #[.int .i64 x, .int .i64 y] w fun e w' => e = .returned (.bool (decide (x < y))) ∧ w' = w := Any.cmp_Less_int2 Try.laysNm231 x y w
open Go.RowKit Go.Lib Go.Sort in
theorem Try.slices_Compact_int_cells (b off n c : Nat) (zs : List Int) (w : World) (hz : n ≤ zs.length) (hbig : n ≤ 9223372036854775807) (hcap : n ≤ c) (hc : ∀ j, j < zs.length → w.cell? ⟨b, off + j, none⟩ = some (.int .i64 (zs.getD j 0))) (hf : ∀ j, j < n → w.frozen? ⟨b, off + j, none⟩ = false) :
    Calls Try.prog 96 #[.slice (some ⟨b, off, none⟩) n c] w fun e w' => e = .returned (.slice (some ⟨b, off, none⟩) (Lib.compact (zs.take n)).length c) ∧ ∃ q, w' = (w.drewN q).setCells b off ((Lib.compact (zs.take n) ++ List.replicate (n - (Lib.compact (zs.take n)).length) 0).map (Value.int .i64)) := Any.slices_Compact_int_cells Try.laysNm220 b off n c zs w hz hbig hcap hc hf
open Go.RowKit Go.Sort in
theorem Try.slices_Sort_int_none (p : Option Addr) (cap : Nat) (w : World) :
    Calls Try.prog 95 #[.slice p 0 cap] w fun e w' => e = .returned (.tuple #[]) ∧ w' = w := Any.slices_Sort_int_none Try.lays189 p cap w
def Try.laysSlE041_f74_ren : Go.Shelf.Ren := ⟨fun | 41 => 74 | n => n, fun | 22 => 25 | 23 => 3 | 4 => 4 | n => n, fun | n => n⟩
theorem Try.laysSlE041_f74 : Go.Proofs.SlLaysE0.n41 Try.prog Try.laysSlE041_f74_ren := {
  mixed := by kernel_rfl
  f41 := ⟨Try.f74.name, by decide, Try.func74.trans (congrArg some (by kernel_rfl))⟩
  t4 := Try.underlying4
  a4 := Try.isAgg4
  z4 := Try.sizeOf4
  v4 := Try.zeroValue4
  t22 := Try.underlying25
  a22 := Try.isAgg25
  z22 := Try.sizeOf25
  v22 := Try.zeroValue25 }
open Go.RowKit Go.Lib in
theorem Try.slices_Clone (i0 : TypeInfo) (z : Value) (size bytes : Nat) (hi : Try.prog.info? 3 = some i0) (hz0 : i0.zero = some z) (hz1 : i0.size = size) (hz2 : i0.bytes = bytes) (hzs : z.cells.size = size) (hsz : 0 < size) (z23 : ∀ w, (Go.sizeOf 3).run Try.prog w = .ok size w) (b off n c : Nat) (news : List Value) (w : World) (hl : news.length = n * size) (hn : n ≤ maxLen) (hbig : n * bytes ≤ 140737488355328) (hc : ∀ j u, news[j]? = some u → w.cell? ⟨b, off + j, none⟩ = some u) (h1 : ∀ u ∈ news, u.oneCell' = true) :
    Calls Try.prog 74 #[.slice (some ⟨b, off, none⟩) n c] w fun e w' => ∃ v', e = .returned v' ∧ w'.ownsRow w.heap.size 3 size v' n news ∧ v' ≠ .slice none 0 0 ∧ Below w.heap.size w w' := AnyE.slices_Clone Try.laysSlE041_f74 i0 z size bytes hi hz0 hz1 hz2 hzs hsz z23 b off n c news w hl hn hbig hc h1
open Go.RowKit Go.Lib in
theorem Try.slices_Clone_nil (n c : Nat) (w : World) :
    Calls Try.prog 74 #[.slice none n c] w fun e w' => e = .returned (.slice none 0 0) ∧ w' = w := AnyE.slices_Clone_nil Try.laysSlE041_f74 n c w
end Go.Proofs
namespace Go.Proofs.Ytakmcpadkanggaa
open Go.RowKit Go.Maps Go.Deep Go.Lib Go.Sort
section
variable {W u : World} {g off base : Nat} {cur : Array Value} {d : Array Int} {v : Value} {xs : List Int}
abbrev encI64 : Int → Value := Value.int .i64
theorem keeps_ahead (n : Nat) : Keeps W (Sort.ahead W n) [] := ⟨rfl, rfl, rfl, Nat.le_refl _, fun _ _ _ => rfl⟩
theorem keeps_grow (os : Array Obj) : Keeps W (grow W os) [] := by
  refine ⟨rfl, rfl, rfl, by simp [grow], fun b hb _ => ?_⟩
  show (W.heap ++ os)[b]? = _
  rw [Array.getElem?_append_left hb]
theorem keeps_putRow : Keeps W (putRow encI64 W g off d) [g] := by
  refine ⟨rfl, rfl, rfl, by simp, fun b hb hn => ?_⟩
  show (W.heap.modify g _)[b]? = _
  rw [Array.getElem?_modify, if_neg (by simp at hn; omega)]
theorem blk_putRow {t : TypeId} (h : Blk W g t cur) : Blk (putRow encI64 W g off d) g t (putCells encI64 off d cur) := by
  unfold Blk at *
  show (W.heap.modify g _)[g]? = _
  rw [Array.getElem?_modify, if_pos rfl, h]
  rfl
theorem putCells_size : (putCells encI64 off d cur).size = cur.size := by simp [putCells]
theorem putCells_get {j : Nat} (hj : j < d.size) (hc : off + j < cur.size) : (putCells encI64 off d cur)[off + j]? = some (.int .i64 d[j]!) := by
  unfold putCells
  rw [Array.getElem?_mapIdx, Array.getElem?_eq_getElem hc]
  simp [hj]
theorem holds_row {_cap : Nat} (hB : Blk W g 3 cur) (h : ∀ j, j < xs.length → cur[off + j]? = some (.int .i64 (xs.getD j 0))) : Holds encI64 W g off xs.toArray := by
  intro j hj
  have hj' : j < xs.length := by simpa using hj
  refine ⟨?_, frozen_of_row W g (off + j) cur 3 hB⟩
  rw [hB.cell, h j hj']
  simp [encI64, List.getD_eq_getElem?_getD, hj', getElem!_pos]
theorem Mint.hrow (h : Mint base W v xs) : HRow base W v xs := by
  obtain ⟨h0, ⟨rfl, hn⟩ | ⟨g, cap, cur, rfl, hb, hB, hle, hm, hs, ht⟩⟩ := h
  · exact .inl ⟨rfl, List.eq_nil_of_length_eq_zero hn⟩
  · refine .inr ⟨g, 0, cap, cur, rfl, hb, hB, hle, hm, by omega, fun j hj => ?_⟩
    have h1 : (cur.toList.take (xs.length * 1))[j]? = (xs.map fun x => Value.int .i64 x)[j]? := by rw [ht]
    rw [List.getElem?_take, if_pos (by omega), Array.getElem?_toList] at h1
    rw [Nat.zero_add, h1]
    simp [List.getD_eq_getElem?_getD, hj]
theorem hrow_putRow {cap : Nat} {ys : List Int} (hb : base ≤ g) (hB : Blk W g 3 cur) (hle : ys.length ≤ cap) (hm : cap ≤ maxLen) (hs : off + cap ≤ cur.size) (hd : ys.length ≤ d.size) (hdc : d.size ≤ cap) (hy : ∀ j, j < ys.length → d[j]! = ys.getD j 0) : HRow base (putRow encI64 W g off d) (.slice (some ⟨g, off, none⟩) ys.length cap) ys :=
  .inr ⟨g, off, cap, _, rfl, hb, blk_putRow hB, hle, hm, by rw [putCells_size]; exact hs, fun j hj => by rw [putCells_get (by omega) (by omega), hy j hj]⟩
set_option maxRecDepth 100000 in
/-- slices.Sort. -/
theorem sort_mint (h : HRow base W v xs) (hn : xs.length ≤ 1000000) : Calls Try.prog 95 #[v] W fun e u => e = .returned (.tuple #[]) ∧ HRow base u v (xs.mergeSort fun x y => decide (x ≤ y)) ∧ Keeps W u v.ownBlock.toList := by
  rcases h with ⟨rfl, rfl⟩ | ⟨g, off, cap, cur, rfl, hb, hB, hle, hm, hs, hx⟩
  · refine (Try.slices_Sort_int_none none 0 W).mono ?_
    rintro e u ⟨rfl, rfl⟩
    exact ⟨rfl, .inl ⟨rfl, by simp⟩, Keeps.refl _ _⟩
  · refine (Try.slices_Sort_int g off cap xs W (holds_row (_cap := cap) hB hx) hB.lt (by omega)).mono ?_
    rintro e u ⟨rfl, n, os, rfl⟩
    have hl : (xs.mergeSort fun x y => decide (x ≤ y)).length = xs.length := List.length_mergeSort _
    have hB' : Blk (Sort.ahead W n) g 3 cur := hB
    have h1 := hrow_putRow (base := base) (cap := cap) (d := (xs.mergeSort fun x y => decide (x ≤ y)).toArray) (ys := xs.mergeSort fun x y => decide (x ≤ y)) hb hB' (by omega) hm hs (by simp) (by simp; omega) (fun j hj => by simp [List.getD_eq_getElem?_getD])
    rw [hl] at h1
    refine ⟨rfl, HRow.keeps h1 (keeps_grow os) (by simp), ?_⟩
    exact (((keeps_ahead n).wide (L' := [g]) (by simp)).trans (keeps_putRow (W := Sort.ahead W n) (g := g) (off := off)) (fun b hb _ => hb)).trans (keeps_grow os) (by simp)
theorem compact_length (zs : List Int) : (Lib.compact zs).length ≤ zs.length := by
  unfold Lib.compact compactUpTo
  rw [List.length_map]
  refine Nat.le_trans (List.length_filter_le _ _) (by simp)
set_option maxRecDepth 100000 in
/-- slices.Compact. -/
theorem compact_row (h : HRow base W v xs) (hn : xs.length ≤ 1000000) : Calls Try.prog 96 #[v] W fun e u => ∃ v', e = .returned v' ∧ v'.ownBlock = v.ownBlock ∧ HRow base u v' (Lib.compact xs) ∧ Keeps W u v.ownBlock.toList := by
  rcases h with ⟨rfl, rfl⟩ | ⟨g, off, cap, cur, rfl, hb, hB, hle, hm, hs, hx⟩
  · refine (Try.slices_Compact_int_empty none 0 W).mono ?_
    rintro e u ⟨rfl, rfl⟩
    exact ⟨_, rfl, rfl, .inl ⟨rfl, by simp [Lib.compact, compactUpTo]⟩, Keeps.refl _ _⟩
  · refine (Try.slices_Compact_int g off cap xs W (holds_row (_cap := cap) hB hx) (by omega) hle).mono ?_
    rintro e u ⟨rfl, q, rfl⟩
    have hl := compact_length xs
    have hB' : Blk (Sort.ahead W q) g 3 cur := hB
    have h1 := hrow_putRow (base := base) (cap := cap) (d := (Lib.compact xs ++ List.replicate (xs.length - (Lib.compact xs).length) 0).toArray) (ys := Lib.compact xs) hb hB' (by omega) hm hs (by simp) (by simp; omega) (fun j hj => by
      simp only [List.getElem!_toArray, List.getD_eq_getElem?_getD]
      rw [List.getElem!_eq_getElem?_getD, List.getElem?_append_left hj]
      rfl)
    exact ⟨_, rfl, rfl, h1, ((keeps_ahead q).wide (L' := [g]) (by simp)).trans (keeps_putRow (W := Sort.ahead W q) (g := g) (off := off)) (fun b hb _ => hb)⟩
end
end Go.Proofs.Ytakmcpadkanggaa
namespace Go.Proofs.Ytakmcpadkanggaa
open Go.RowKit Go.Maps Go.Deep
section
variable {w : World} {F : List Nat} {rooms : Value} {p : Nat} {mb : Nat → Nat} {f : Nat → Int → Option Value} {k : Lk} {m base : Nat} {who op a v : Int} {sh : Bool} {j : Int}
def OwnPost (w : World) (F : List Nat) (rooms : Value) (p : Nat) (mb : Nat → Nat) (f : Nat → Int → Option Value) (k : Lk) (m base : Nat) (who j : Int) (x : Ending) (u : World) : Prop :=
  ∃ r, x = .returned r ∧ Mint w.heap.size u r (ownL k who) ∧ LinksAt u F rooms p mb (updN f 4 (updI (f 4) who (some (.int .i64 j)))) (ownK k who j) (m + 1) base ∧ Keeps w u [mb 4]
set_option maxRecDepth 100000 in
set_option maxHeartbeats 1000000 in
theorem own_1 (hl : LinksAt w F rooms p mb f k m base) (hwf : (Lit.int .i64 who).wf = true) (hm : m < maxLen) {i : Int} (h4 : k.ones 4 who = some i) : Calls Try.prog 94 #[.pointer (some ⟨p, 0, none⟩), .int .i64 j, .agg #[Value.int .i64 who, .int .i64 op, .int .i64 a, .int .i64 v, .bool sh]] w (OwnPost w F rooms p mb f k m base who j) := by
  have O := Own.start w []
  have HL := Lib.hid hl
  have HWF := Lib.hid hwf
  have HM := Lib.hid hm
  have HV4 := Lib.hid (show f 4 who = some (.int .i64 i) by rw [HL.out.ones 4 (by decide) (by decide), h4]; rfl)
  have HR := Lib.hid (show ownL k who = [i] by simp [ownL, h4])
  clear h4
  clear hl hwf hm
  go_enter Try.func94, Try.ntmps94
  go_wp2_with (first
    | (refine own_box 5 #[Value.int .i64 who, .int .i64 op, .int .i64 a, .int .i64 v, .bool sh] O rfl rfl rfl rfl ?_; clear O; intro W b5 O; simp only [Act.put, List.setIfInBounds_toArray, List.set_cons_zero, List.set_cons_succ]))
  have c5 := Later.cell (O.get 0 rfl)
  have cm : ∀ q : Later W, q.1.cell? ⟨p, 1, none⟩ = some (.map (some (mb 4))) := fun q => (HL.out.kept (O.keep.trans q.2 (by simp)) (by simp)).blk.cell 1
  have lk : ∀ q : Later W, (Instr.lookup 117 (.map (some (mb 4))) (.int .i64 who) true).run Try.prog q.1 = .ok (.tuple #[.int .i64 i, .bool true]) q.1 := fun q => by
    have := look_okV ((HL.out.kept (O.keep.trans q.2 (by simp)) (by simp)).maps 4 (by decide)) 117 3 (.int .i64 0) Try.underlying117 (zero3 _) who HWF.out
    rwa [HV4.out] at this
  refine wp_quiet_later (by kernel_rfl) (by kernel_rfl) ?_
  repeat (first
    | go_big_quiet_skip
    | go_big_quiet_step (fail))
  refine wpQuiet_nil ?_
  intro _ hw
  obtain ⟨p', rfl⟩ := hw
  replace O := O.keeps p'.2
  clear c5 cm lk
  generalize p'.1 = W at O ⊢
  go_wp2_with (first
    | (refine own_lit1 25 i O rfl rfl rfl rfl ?_; clear O; intro W gl O K1 _; simp only [Act.put, List.setIfInBounds_toArray, List.set_cons_zero, List.set_cons_succ])
    | (at_builtin; refine own_app w.heap.size (.slice none 0 0) [] i gl (.tmp 23) (.tmp 25) (O.drop_ 1) (Mint.nil _ _) rfl rfl rfl rfl ((O.get 0 rfl).cell 0) rfl (by simp) (by simp) ?_; intro v' W O2 M2; clear O; have O := O2; clear O2; simp only [Act.put, List.setIfInBounds_toArray, List.set_cons_zero, List.set_cons_succ]; simp only [List.drop] at O; rw [List.nil_append] at M2)
    | go_big_skip)
  have c5 := Later.cell (O.get 0 rfl)
  have cm : ∀ q : Later W, q.1.cell? ⟨p, 1, none⟩ = some (.map (some (mb 4))) := fun q => (HL.out.kept (O.keep.trans q.2 (by simp)) (by simp)).blk.cell 1
  refine wp_quiet_tail_later 7 (by kernel_rfl) (by kernel_rfl) ?_
  simp only [List.take, List.drop]
  repeat (first
    | go_big_quiet_skip
    | go_big_quiet_step (fail))
  refine wpQuiet_nil ?_
  intro _ hw
  obtain ⟨p', rfl⟩ := hw
  replace O := O.keeps p'.2
  replace M2 := M2.keeps p'.2 (by simp)
  clear c5 cm
  generalize p'.1 = W at O M2 ⊢
  refine map_storeV ((HL.out.kept O.keep (by simp)).maps 4 (by decide)) 117 3 Try.underlying117 rfl rfl rfl rfl HWF.out rfl HM.out ?_
  intro u K M
  have L2 := Lib.hid ((HL.out.kept O.keep (by simp)).setOne (Nat.le_refl 4) (by decide) K M)
  have K2 := Lib.hid ((O.keep.wide (L' := [mb 4]) (by simp)).trans K (fun b hb _ => hb))
  have M3 := Lib.hid (M2.keeps K fun g hg hm => by
    obtain ⟨_, _, cur, hb⟩ := M2.own hg
    obtain rfl : g = mb 4 := by simpa using hm
    exact ((HL.out.kept O.keep (by simp)).maps 4 (by decide)).not_blk hb rfl)
  clear M M2
  go_wp2
  go_ret
  exact ⟨_, rfl, by rw [HR.out]; exact M3.out, L2.out, K2.out⟩
set_option maxRecDepth 100000 in
set_option maxHeartbeats 1000000 in
theorem own_2 (hl : LinksAt w F rooms p mb f k m base) (hwf : (Lit.int .i64 who).wf = true) (hm : m < maxLen) {i : Int} (h4 : k.ones 4 who = none) (h5 : k.ones 5 who = some i) : Calls Try.prog 94 #[.pointer (some ⟨p, 0, none⟩), .int .i64 j, .agg #[Value.int .i64 who, .int .i64 op, .int .i64 a, .int .i64 v, .bool sh]] w (OwnPost w F rooms p mb f k m base who j) := by
  have O := Own.start w []
  have HL := Lib.hid hl
  have HWF := Lib.hid hwf
  have HM := Lib.hid hm
  have HV4 := Lib.hid (show f 4 who = none by rw [HL.out.ones 4 (by decide) (by decide), h4]; rfl)
  have HV5 := Lib.hid (show f 5 who = some (.int .i64 i) by rw [HL.out.ones 5 (by decide) (by decide), h5]; rfl)
  have HR := Lib.hid (show ownL k who = [i] by simp [ownL, h4, h5])
  clear h4 h5
  clear hl hwf hm
  go_enter Try.func94, Try.ntmps94
  go_wp2_with (first
    | (refine own_box 5 #[Value.int .i64 who, .int .i64 op, .int .i64 a, .int .i64 v, .bool sh] O rfl rfl rfl rfl ?_; clear O; intro W b5 O; simp only [Act.put, List.setIfInBounds_toArray, List.set_cons_zero, List.set_cons_succ]))
  have c5 := Later.cell (O.get 0 rfl)
  have cm : ∀ q : Later W, q.1.cell? ⟨p, 1, none⟩ = some (.map (some (mb 4))) := fun q => (HL.out.kept (O.keep.trans q.2 (by simp)) (by simp)).blk.cell 1
  have lk : ∀ q : Later W, (Instr.lookup 117 (.map (some (mb 4))) (.int .i64 who) true).run Try.prog q.1 = .ok (.tuple #[.int .i64 0, .bool false]) q.1 := fun q => by
    have := look_okV ((HL.out.kept (O.keep.trans q.2 (by simp)) (by simp)).maps 4 (by decide)) 117 3 (.int .i64 0) Try.underlying117 (zero3 _) who HWF.out
    rwa [HV4.out] at this
  refine wp_quiet_later (by kernel_rfl) (by kernel_rfl) ?_
  repeat (first
    | go_big_quiet_skip
    | go_big_quiet_step (fail))
  refine wpQuiet_nil ?_
  intro _ hw
  obtain ⟨p', rfl⟩ := hw
  replace O := O.keeps p'.2
  clear c5 cm lk
  generalize p'.1 = W at O ⊢
  go_wp2
  have c5 := Later.cell (O.get 0 rfl)
  have cm : ∀ q : Later W, q.1.cell? ⟨p, 2, none⟩ = some (.map (some (mb 5))) := fun q => (HL.out.kept (O.keep.trans q.2 (by simp)) (by simp)).blk.cell 2
  have lk : ∀ q : Later W, (Instr.lookup 117 (.map (some (mb 5))) (.int .i64 who) true).run Try.prog q.1 = .ok (.tuple #[.int .i64 i, .bool true]) q.1 := fun q => by
    have := look_okV ((HL.out.kept (O.keep.trans q.2 (by simp)) (by simp)).maps 5 (by decide)) 117 3 (.int .i64 0) Try.underlying117 (zero3 _) who HWF.out
    rwa [HV5.out] at this
  refine wp_quiet_later (by kernel_rfl) (by kernel_rfl) ?_
  repeat (first
    | go_big_quiet_skip
    | go_big_quiet_step (fail))
  refine wpQuiet_nil ?_
  intro _ hw
  obtain ⟨p', rfl⟩ := hw
  replace O := O.keeps p'.2
  clear c5 cm lk
  generalize p'.1 = W at O ⊢
  go_wp2_with (first
    | (refine own_lit1 40 i O rfl rfl rfl rfl ?_; clear O; intro W gl O K1 _; simp only [Act.put, List.setIfInBounds_toArray, List.set_cons_zero, List.set_cons_succ])
    | (at_builtin; refine own_app w.heap.size (.slice none 0 0) [] i gl (.tmp 38) (.tmp 40) (O.drop_ 1) (Mint.nil _ _) rfl rfl rfl rfl ((O.get 0 rfl).cell 0) rfl (by simp) (by simp) ?_; intro v' W O2 M2; clear O; have O := O2; clear O2; simp only [Act.put, List.setIfInBounds_toArray, List.set_cons_zero, List.set_cons_succ]; simp only [List.drop] at O; rw [List.nil_append] at M2)
    | go_big_skip)
  have c5 := Later.cell (O.get 0 rfl)
  have cm : ∀ q : Later W, q.1.cell? ⟨p, 1, none⟩ = some (.map (some (mb 4))) := fun q => (HL.out.kept (O.keep.trans q.2 (by simp)) (by simp)).blk.cell 1
  refine wp_quiet_tail_later 7 (by kernel_rfl) (by kernel_rfl) ?_
  simp only [List.take, List.drop]
  repeat (first
    | go_big_quiet_skip
    | go_big_quiet_step (fail))
  refine wpQuiet_nil ?_
  intro _ hw
  obtain ⟨p', rfl⟩ := hw
  replace O := O.keeps p'.2
  replace M2 := M2.keeps p'.2 (by simp)
  clear c5 cm
  generalize p'.1 = W at O M2 ⊢
  refine map_storeV ((HL.out.kept O.keep (by simp)).maps 4 (by decide)) 117 3 Try.underlying117 rfl rfl rfl rfl HWF.out rfl HM.out ?_
  intro u K M
  have L2 := Lib.hid ((HL.out.kept O.keep (by simp)).setOne (Nat.le_refl 4) (by decide) K M)
  have K2 := Lib.hid ((O.keep.wide (L' := [mb 4]) (by simp)).trans K (fun b hb _ => hb))
  have M3 := Lib.hid (M2.keeps K fun g hg hm => by
    obtain ⟨_, _, cur, hb⟩ := M2.own hg
    obtain rfl : g = mb 4 := by simpa using hm
    exact ((HL.out.kept O.keep (by simp)).maps 4 (by decide)).not_blk hb rfl)
  clear M M2
  go_wp2
  go_ret
  exact ⟨_, rfl, by rw [HR.out]; exact M3.out, L2.out, K2.out⟩
set_option maxRecDepth 100000 in
set_option maxHeartbeats 1000000 in
theorem own_3 (hl : LinksAt w F rooms p mb f k m base) (hwf : (Lit.int .i64 who).wf = true) (hm : m < maxLen) (h4 : k.ones 4 who = none) (h5 : k.ones 5 who = none) : Calls Try.prog 94 #[.pointer (some ⟨p, 0, none⟩), .int .i64 j, .agg #[Value.int .i64 who, .int .i64 op, .int .i64 a, .int .i64 v, .bool sh]] w (OwnPost w F rooms p mb f k m base who j) := by
  have O := Own.start w []
  have HL := Lib.hid hl
  have HWF := Lib.hid hwf
  have HM := Lib.hid hm
  have HV4 := Lib.hid (show f 4 who = none by rw [HL.out.ones 4 (by decide) (by decide), h4]; rfl)
  have HV5 := Lib.hid (show f 5 who = none by rw [HL.out.ones 5 (by decide) (by decide), h5]; rfl)
  have HR := Lib.hid (show ownL k who = [] by simp [ownL, h4, h5])
  clear h4 h5
  clear hl hwf hm
  go_enter Try.func94, Try.ntmps94
  go_wp2_with (first
    | (refine own_box 5 #[Value.int .i64 who, .int .i64 op, .int .i64 a, .int .i64 v, .bool sh] O rfl rfl rfl rfl ?_; clear O; intro W b5 O; simp only [Act.put, List.setIfInBounds_toArray, List.set_cons_zero, List.set_cons_succ]))
  have c5 := Later.cell (O.get 0 rfl)
  have cm : ∀ q : Later W, q.1.cell? ⟨p, 1, none⟩ = some (.map (some (mb 4))) := fun q => (HL.out.kept (O.keep.trans q.2 (by simp)) (by simp)).blk.cell 1
  have lk : ∀ q : Later W, (Instr.lookup 117 (.map (some (mb 4))) (.int .i64 who) true).run Try.prog q.1 = .ok (.tuple #[.int .i64 0, .bool false]) q.1 := fun q => by
    have := look_okV ((HL.out.kept (O.keep.trans q.2 (by simp)) (by simp)).maps 4 (by decide)) 117 3 (.int .i64 0) Try.underlying117 (zero3 _) who HWF.out
    rwa [HV4.out] at this
  refine wp_quiet_later (by kernel_rfl) (by kernel_rfl) ?_
  repeat (first
    | go_big_quiet_skip
    | go_big_quiet_step (fail))
  refine wpQuiet_nil ?_
  intro _ hw
  obtain ⟨p', rfl⟩ := hw
  replace O := O.keeps p'.2
  clear c5 cm lk
  generalize p'.1 = W at O ⊢
  go_wp2
  have c5 := Later.cell (O.get 0 rfl)
  have cm : ∀ q : Later W, q.1.cell? ⟨p, 2, none⟩ = some (.map (some (mb 5))) := fun q => (HL.out.kept (O.keep.trans q.2 (by simp)) (by simp)).blk.cell 2
  have lk : ∀ q : Later W, (Instr.lookup 117 (.map (some (mb 5))) (.int .i64 who) true).run Try.prog q.1 = .ok (.tuple #[.int .i64 0, .bool false]) q.1 := fun q => by
    have := look_okV ((HL.out.kept (O.keep.trans q.2 (by simp)) (by simp)).maps 5 (by decide)) 117 3 (.int .i64 0) Try.underlying117 (zero3 _) who HWF.out
    rwa [HV5.out] at this
  refine wp_quiet_later (by kernel_rfl) (by kernel_rfl) ?_
  repeat (first
    | go_big_quiet_skip
    | go_big_quiet_step (fail))
  refine wpQuiet_nil ?_
  intro _ hw
  obtain ⟨p', rfl⟩ := hw
  replace O := O.keeps p'.2
  clear c5 cm lk
  generalize p'.1 = W at O ⊢
  go_wp2
  have M2 := Mint.nil w.heap.size W
  obtain ⟨v', hv'⟩ : ∃ v' : Value, v' = .slice none 0 0 := ⟨_, rfl⟩
  have HVV := Lib.hid hv'
  rw [← hv'] at M2
  clear hv'
  have c5 := Later.cell (O.get 0 rfl)
  have cm : ∀ q : Later W, q.1.cell? ⟨p, 1, none⟩ = some (.map (some (mb 4))) := fun q => (HL.out.kept (O.keep.trans q.2 (by simp)) (by simp)).blk.cell 1
  refine wp_quiet_tail_later 7 (by kernel_rfl) (by kernel_rfl) ?_
  simp only [List.take, List.drop]
  repeat (first
    | go_big_quiet_skip
    | go_big_quiet_step (fail))
  refine wpQuiet_nil ?_
  intro _ hw
  obtain ⟨p', rfl⟩ := hw
  replace O := O.keeps p'.2
  replace M2 := M2.keeps p'.2 (by simp)
  clear c5 cm
  generalize p'.1 = W at O M2 ⊢
  refine map_storeV ((HL.out.kept O.keep (by simp)).maps 4 (by decide)) 117 3 Try.underlying117 rfl rfl rfl rfl HWF.out rfl HM.out ?_
  intro u K M
  have L2 := Lib.hid ((HL.out.kept O.keep (by simp)).setOne (Nat.le_refl 4) (by decide) K M)
  have K2 := Lib.hid ((O.keep.wide (L' := [mb 4]) (by simp)).trans K (fun b hb _ => hb))
  have M3 := Lib.hid (M2.keeps K fun g hg hm => by
    obtain ⟨_, _, cur, hb⟩ := M2.own hg
    obtain rfl : g = mb 4 := by simpa using hm
    exact ((HL.out.kept O.keep (by simp)).maps 4 (by decide)).not_blk hb rfl)
  clear M M2
  go_wp2
  go_ret
  exact ⟨_, rfl, by rw [HR.out, ← HVV.out]; exact M3.out, L2.out, K2.out⟩
theorem own_any (hl : LinksAt w F rooms p mb f k m base) (hwf : (Lit.int .i64 who).wf = true) (hm : m < maxLen) : Calls Try.prog 94 #[.pointer (some ⟨p, 0, none⟩), .int .i64 j, .agg #[Value.int .i64 who, .int .i64 op, .int .i64 a, .int .i64 v, .bool sh]] w (OwnPost w F rooms p mb f k m base who j) := by
  cases h4 : k.ones 4 who with
  | some i => exact own_1 hl hwf hm h4
  | none =>
    cases h5 : k.ones 5 who with
    | some i => exact own_2 hl hwf hm h4 h5
    | none => exact own_3 hl hwf hm h4 h5
end
end Go.Proofs.Ytakmcpadkanggaa

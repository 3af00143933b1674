/-
  The document's answer: the locks that guard a cell (quernref14.Guards).
-/
import Derived.Test.YtakmcpadkanggaaT20
namespace Go.Proofs.Ytakmcpadkanggaa
open Go.RowKit Go.Maps Go.Deep

section
variable {w : World} {S : Sys} {A : Option Addr} {c : Nat} {R : Option Addr} {d n : Nat} {E : Nat → Ev} {B : Option Addr} {cb : Nat}
set_option maxRecDepth 100000 in
set_option maxHeartbeats 2000000 in
theorem refguards_in (hS : SysIn w S A c R d) (hE : EvsAt w B n E) (cell : Int) (h : (thr S E n).2.2 = 0) (hc : 0 ≤ cell ∧ cell < S.ce) : Calls Try.prog 36 #[.agg (sysV S A c R d), .slice B n cb, .int .i64 cell] w (HeldPost (guardR S E n cell) w) := by
  have O := Own.start w []
  have HV : ∀ u, Keeps w u [] → Hid (Calls Try.prog 29 #[.agg (sysV S A c R d), .slice B n cb] u fun e w' => e = .returned (.tuple #[.int .i64 (thr S E n).2.1, .int .i64 (thr S E n).1, .int .i64 (thr S E n).2.2]) ∧ Keeps u w' []) := fun u k => Lib.hid (rvalid_any (hS.kept k) (hE.kept k))
  obtain ⟨hv, hn, hok⟩ := thr_zero h
  have hh := ((validB_iff S).1 hv).1
  obtain ⟨_, _, _, _, h4, h5⟩ := (headB_iff S).1 hh
  rw [shB_iff] at h4 h5
  obtain ⟨m, hm⟩ : ∃ m : Nat, S.lk = (m : Int) := ⟨S.lk.toNat, by omega⟩
  have HI : ∀ u, Hid (Calls Try.prog 65 #[.int .i64 cell, .int .i64 S.ce] u fun e w' => e = .returned (.bool true) ∧ u = w') := fun u => Lib.hid (by have := inside_any cell S.ce u; rwa [show (decide (0 ≤ cell) && decide (cell < S.ce)) = true by simp; omega] at this)
  have HF := Lib.hid (show guardR S E n cell = (guardN E cell n m, 0) by simp [guardR, h, hc, hm])
  have HR := Lib.hid (fun u (K : Keeps w u []) (i : Nat) (hi : i ≤ n) (q : Nat) => refholder_any (cb := cb) (hE.kept K) hn i hi (q : Int))
  have HE := Lib.hid hE
  have HM := Lib.hid hm
  have b1 : m ≤ 64 := by omega
  have b3 : n ≤ 40000 := hn
  generalize hr : guardR S E n cell = r at HF ⊢
  clear hr hv hh h4 h5 hm hok hE hS hn hc
  generalize thr S E n = x at *
  obtain ⟨x0, x1, x2⟩ := x
  simp only at *
  subst h
  go_enter Try.func36, Try.ntmps36
  go_wp2_with (first
    | go_big_skip
    | (refine own_box 3 (sysV S A c R d) O rfl rfl rfl rfl ?_; clear O; intro W a3 O; simp only [Act.put, List.setIfInBounds_toArray, List.set_cons_zero, List.set_cons_succ]; have c3 : ∀ i, W.cell? ⟨a3, i, none⟩ = #[Value.slice A S.np c, .slice R S.nr d, .int .i64 S.gr, .int .i64 S.lk, .int .i64 S.ce][i]? := (O.get 0 rfl).cell)
    | (refine own_load 17 0 O rfl rfl rfl rfl rfl Try.underlying27 rfl (by kernel_rfl) ?_; simp only [Act.put, List.setIfInBounds_toArray, List.set_cons_zero, List.set_cons_succ])
    | (go_at_call 29; refine ((HV _ O.keep).out).mono ?_; rintro e W ⟨rfl, K⟩; replace O := O.keeps K; clear K c3; have c3 : ∀ i, W.cell? ⟨a3, i, none⟩ = #[Value.slice A S.np c, .slice R S.nr d, .int .i64 S.gr, .int .i64 S.lk, .int .i64 S.ce][i]? := (O.get 0 rfl).cell)
    | (go_at_call 65; refine ((HI _).out).mono ?_; rintro e W ⟨rfl, rfl⟩))
  clear c3
  go_loopw [12, 11] (fun j v wr => ∃ q : Nat, q ≤ m ∧ j = .int .i64 q ∧ Own w wr [] [(a3, 27, sysV S A c R d)] ∧ Mint w.heap.size wr v (guardN E cell n q)) (fun j _ _ => m - (intOf j).toNat)
  case atStart => exact ⟨0, by omega, rfl, O, Mint.nil _ _⟩
  case round =>
    clear O
    obtain ⟨q, hq, rfl, O, M⟩ := hrel
    have c3 : wr.cell? ⟨a3, 3, none⟩ = some (.int .i64 (m : Int)) := ((O.get 0 rfl).cell 3).trans (by show some (Value.int .i64 S.lk) = _; rw [HM.out])
    by_cases hlt : q < m
    · have g2 : ((q : Int)) < m := by omega
      have g3 : (0 : Int) ≤ q := by omega
      have HL := Lib.hid (guardN_length E cell n q)
      have HRq := Lib.hid (fun u (K : Keeps w u []) (i : Nat) (hi : i ≤ n) => HR.out u K i hi q)
      go_wp2
      clear c3
      have HM0 := Lib.hid M
      have HO0 := Lib.hid O
      go_loopw [15, 13, 14] (fun i s g wr' => ∃ k : Nat, k ≤ n ∧ i = .int .i64 k ∧ s = .bool (someR E cell k) ∧ g = .bool (goodR E cell (q : Int) k) ∧ Keeps wr wr' []) (fun i _ _ _ => n - (intOf i).toNat)
      case atStart => exact ⟨0, by omega, rfl, rfl, rfl, Keeps.refl _ _⟩
      case round =>
        clear M O
        obtain ⟨k, hk, rfl, rfl, rfl, K⟩ := hrel
        have KW := HO0.out.keep.trans K (by simp)
        by_cases hkn : k < n
        · have g4 : ((k : Int)) < n := by omega
          have g5 : (0 : Int) ≤ k := by omega
          obtain ⟨ad, rfl, hc⟩ := EvsAt.row (u := w) HE.out hkn
          have HC := Lib.hid (fun u (K : Keeps w u []) j hj => hc [] u K (by simp) j hj)
          have HRk := Lib.hid (fun u (K : Keeps w u []) => HRq.out u K k (by omega))
          have HG := Lib.hid (show goodR E cell (q : Int) (k + 1) = (goodR E cell q k && ((!rwB (E k) cell || decide (refW E q k = (E k).who)) && (!(decide ((E k).op = 9) && decide ((E k).a = (q : Int))) || decide (refW E q k = (E k).who)))) from rfl)
          have HSm := Lib.hid (show someR E cell (k + 1) = (someR E cell k || rwB (E k) cell) from rfl)
          clear hc
          generalize E k = ev at HC HG HSm
          obtain ⟨who, op, a, v, sh⟩ := ev
          have c1 : wr.cell? ⟨(ad.add (k * 5)).block, (ad.add (k * 5)).off + 1, none⟩ = some (.int .i64 op) := HC.out _ KW 1 (by show 1 < 5; omega)
          have c2 : wr.cell? ⟨(ad.add (k * 5)).block, (ad.add (k * 5)).off + 2, none⟩ = some (.int .i64 a) := HC.out _ KW 2 (by show 2 < 5; omega)
          have HC0 := Lib.hid (fun u (K : Keeps w u []) => (show u.cell? (ad.add (k * 5)) = some (.int .i64 who) from HC.out u K 0 (by show 0 < 5; omega)))
          have HC1 := Lib.hid (fun u (K : Keeps w u []) => (show u.cell? ⟨(ad.add (k * 5)).block, (ad.add (k * 5)).off + 1, none⟩ = some (.int .i64 op) from HC.out u K 1 (by show 1 < 5; omega)))
          have HC2 := Lib.hid (fun u (K : Keeps w u []) => (show u.cell? ⟨(ad.add (k * 5)).block, (ad.add (k * 5)).off + 2, none⟩ = some (.int .i64 a) from HC.out u K 2 (by show 2 < 5; omega)))
          clear HC
          simp only at HG HSm
          by_cases h9 : op = 9
          · subst h9
            by_cases ha : a = (q : Int)
            · subst ha
              have ea : ((q : Int) == (q : Int)) = true := by simp
              cases hg : goodR E cell (q : Int) k with
              | false =>
                have HX : ∀ u, Keeps w u [] → Hid (Calls Try.prog 68 #[.slice (some ad) n cb, .int .i64 (k : Int), .int .i64 (q : Int)] u fun e w' => e = .returned (.int .i64 (refW E q k)) ∧ Keeps u w' []) := fun u K => Lib.hid (HRk.out u K)
                have HGk := Lib.hid hg
                clear hg
                go_wp2_with (first | go_big_skip)
                clear c1 c2
                generalize wr = W0 at K KW ⊢
                have c0 : ∀ p : Later W0, p.1.cell? (ad.add (k * 5)) = some (.int .i64 who) := fun p => HC0.out _ (KW.trans p.2 (by simp))
                refine wp_quiet_later (by kernel_rfl) (by kernel_rfl) ?_
                repeat (first
                  | go_big_quiet_skip
                  | go_big_quiet_step ((go_at_call 68; exact later_of (HX _ (KW.trans (Later.keep _) (by simp))).out)))
                refine wpQuiet_nil ?_
                intro _ hw
                obtain ⟨p', rfl⟩ := hw
                replace K := K.trans p'.2 (by simp)
                replace KW := KW.trans p'.2 (by simp)
                clear c0
                generalize p'.1 = W0 at K KW ⊢
                go_wp2
                go_roundw
                case rel => exact ⟨k + 1, by omega, by go_num, by rw [HSm.out]; simp [rwB], by rw [HG.out]; simp [HGk.out], K⟩
                case measure => (simp [intOf] <;> omega)
              | true =>
                by_cases he : refW E q k = who
                · have HX : ∀ u, Keeps w u [] → Hid (Calls Try.prog 68 #[.slice (some ad) n cb, .int .i64 (k : Int), .int .i64 (q : Int)] u fun e w' => e = .returned (.int .i64 who) ∧ Keeps u w' []) := fun u K => Lib.hid (by have := HRk.out u K; rwa [he] at this)
                  have HGk := Lib.hid (show goodR E cell (q : Int) k = true ∧ refW E q k = who from ⟨hg, he⟩)
                  have e1 : (who == who) = true := by simp
                  clear hg he
                  go_wp2_with (first | go_big_skip)
                  clear c1 c2
                  generalize wr = W0 at K KW ⊢
                  have c0 : ∀ p : Later W0, p.1.cell? (ad.add (k * 5)) = some (.int .i64 who) := fun p => HC0.out _ (KW.trans p.2 (by simp))
                  refine wp_quiet_later (by kernel_rfl) (by kernel_rfl) ?_
                  repeat (first
                    | go_big_quiet_skip
                    | go_big_quiet_step ((go_at_call 68; exact later_of (HX _ (KW.trans (Later.keep _) (by simp))).out)))
                  refine wpQuiet_nil ?_
                  intro _ hw
                  obtain ⟨p', rfl⟩ := hw
                  replace K := K.trans p'.2 (by simp)
                  replace KW := KW.trans p'.2 (by simp)
                  clear c0
                  generalize p'.1 = W0 at K KW ⊢
                  clear e1
                  go_wp2
                  go_roundw
                  case rel => exact ⟨k + 1, by omega, by go_num, by rw [HSm.out]; simp [rwB], by rw [HG.out]; simp [HGk.out], K⟩
                  case measure => (simp [intOf] <;> omega)
                · have HX : ∀ u, Keeps w u [] → Hid (Calls Try.prog 68 #[.slice (some ad) n cb, .int .i64 (k : Int), .int .i64 (q : Int)] u fun e w' => e = .returned (.int .i64 (refW E q k)) ∧ Keeps u w' []) := fun u K => Lib.hid (HRk.out u K)
                  have HGk := Lib.hid (show goodR E cell (q : Int) k = true ∧ ¬ refW E q k = who from ⟨hg, he⟩)
                  have e1 : (refW E q k == who) = false := by simpa using he
                  clear hg he
                  go_wp2_with (first | go_big_skip)
                  clear c1 c2
                  generalize wr = W0 at K KW ⊢
                  have c0 : ∀ p : Later W0, p.1.cell? (ad.add (k * 5)) = some (.int .i64 who) := fun p => HC0.out _ (KW.trans p.2 (by simp))
                  refine wp_quiet_later (by kernel_rfl) (by kernel_rfl) ?_
                  repeat (first
                    | go_big_quiet_skip
                    | go_big_quiet_step ((go_at_call 68; exact later_of (HX _ (KW.trans (Later.keep _) (by simp))).out)))
                  refine wpQuiet_nil ?_
                  intro _ hw
                  obtain ⟨p', rfl⟩ := hw
                  replace K := K.trans p'.2 (by simp)
                  replace KW := KW.trans p'.2 (by simp)
                  clear c0
                  generalize p'.1 = W0 at K KW ⊢
                  clear e1
                  go_wp2
                  go_roundw
                  case rel => exact ⟨k + 1, by omega, by go_num, by rw [HSm.out]; simp [rwB], by rw [HG.out]; simp [HGk.out, rwB], K⟩
                  case measure => (simp [intOf] <;> omega)
            · have ea : (a == (q : Int)) = false := by simpa using ha
              go_wp2_with (first | go_big_skip)
              clear c1 c2
              go_roundw
              case rel => exact ⟨k + 1, by omega, by go_num, by rw [HSm.out]; simp [rwB], by rw [HG.out]; simp [rwB, ha], K⟩
              case measure => (simp [intOf] <;> omega)
          by_cases h12 : op = 12
          · subst h12
            by_cases ha : a = cell
            · subst ha
              have ea : (a == a) = true := by simp
              cases hg : goodR E a (q : Int) k with
              | false =>
                have HX : ∀ u, Keeps w u [] → Hid (Calls Try.prog 68 #[.slice (some ad) n cb, .int .i64 (k : Int), .int .i64 (q : Int)] u fun e w' => e = .returned (.int .i64 (refW E q k)) ∧ Keeps u w' []) := fun u K => Lib.hid (HRk.out u K)
                have HGk := Lib.hid hg
                clear hg
                go_wp2_with (first | go_big_skip)
                clear c1 c2
                generalize wr = W0 at K KW ⊢
                have c0 : ∀ p : Later W0, p.1.cell? (ad.add (k * 5)) = some (.int .i64 who) := fun p => HC0.out _ (KW.trans p.2 (by simp))
                refine wp_quiet_later (by kernel_rfl) (by kernel_rfl) ?_
                repeat (first
                  | go_big_quiet_skip
                  | go_big_quiet_step ((go_at_call 68; exact later_of (HX _ (KW.trans (Later.keep _) (by simp))).out)))
                refine wpQuiet_nil ?_
                intro _ hw
                obtain ⟨p', rfl⟩ := hw
                replace K := K.trans p'.2 (by simp)
                replace KW := KW.trans p'.2 (by simp)
                clear c0
                generalize p'.1 = W0 at K KW ⊢
                have c1 := HC1.out _ KW
                have c2 := HC2.out _ KW
                go_wp2_with (first | go_big_skip)
                clear c1 c2
                go_roundw
                case rel => exact ⟨k + 1, by omega, by go_num, by rw [HSm.out]; simp [rwB], by rw [HG.out]; simp [HGk.out], K⟩
                case measure => (simp [intOf] <;> omega)
              | true =>
                by_cases he : refW E q k = who
                · have HX : ∀ u, Keeps w u [] → Hid (Calls Try.prog 68 #[.slice (some ad) n cb, .int .i64 (k : Int), .int .i64 (q : Int)] u fun e w' => e = .returned (.int .i64 who) ∧ Keeps u w' []) := fun u K => Lib.hid (by have := HRk.out u K; rwa [he] at this)
                  have HGk := Lib.hid (show goodR E a (q : Int) k = true ∧ refW E q k = who from ⟨hg, he⟩)
                  have e1 : (who == who) = true := by simp
                  clear hg he
                  go_wp2_with (first | go_big_skip)
                  clear c1 c2
                  generalize wr = W0 at K KW ⊢
                  have c0 : ∀ p : Later W0, p.1.cell? (ad.add (k * 5)) = some (.int .i64 who) := fun p => HC0.out _ (KW.trans p.2 (by simp))
                  refine wp_quiet_later (by kernel_rfl) (by kernel_rfl) ?_
                  repeat (first
                    | go_big_quiet_skip
                    | go_big_quiet_step ((go_at_call 68; exact later_of (HX _ (KW.trans (Later.keep _) (by simp))).out)))
                  refine wpQuiet_nil ?_
                  intro _ hw
                  obtain ⟨p', rfl⟩ := hw
                  replace K := K.trans p'.2 (by simp)
                  replace KW := KW.trans p'.2 (by simp)
                  clear c0
                  generalize p'.1 = W0 at K KW ⊢
                  clear e1
                  have c1 := HC1.out _ KW
                  have c2 := HC2.out _ KW
                  go_wp2_with (first | go_big_skip)
                  clear c1 c2
                  go_roundw
                  case rel => exact ⟨k + 1, by omega, by go_num, by rw [HSm.out]; simp [rwB], by rw [HG.out]; simp [HGk.out], K⟩
                  case measure => (simp [intOf] <;> omega)
                · have HX : ∀ u, Keeps w u [] → Hid (Calls Try.prog 68 #[.slice (some ad) n cb, .int .i64 (k : Int), .int .i64 (q : Int)] u fun e w' => e = .returned (.int .i64 (refW E q k)) ∧ Keeps u w' []) := fun u K => Lib.hid (HRk.out u K)
                  have HGk := Lib.hid (show goodR E a (q : Int) k = true ∧ ¬ refW E q k = who from ⟨hg, he⟩)
                  have e1 : (refW E q k == who) = false := by simpa using he
                  clear hg he
                  go_wp2_with (first | go_big_skip)
                  clear c1 c2
                  generalize wr = W0 at K KW ⊢
                  have c0 : ∀ p : Later W0, p.1.cell? (ad.add (k * 5)) = some (.int .i64 who) := fun p => HC0.out _ (KW.trans p.2 (by simp))
                  refine wp_quiet_later (by kernel_rfl) (by kernel_rfl) ?_
                  repeat (first
                    | go_big_quiet_skip
                    | go_big_quiet_step ((go_at_call 68; exact later_of (HX _ (KW.trans (Later.keep _) (by simp))).out)))
                  refine wpQuiet_nil ?_
                  intro _ hw
                  obtain ⟨p', rfl⟩ := hw
                  replace K := K.trans p'.2 (by simp)
                  replace KW := KW.trans p'.2 (by simp)
                  clear c0
                  generalize p'.1 = W0 at K KW ⊢
                  clear e1
                  have c1 := HC1.out _ KW
                  have c2 := HC2.out _ KW
                  go_wp2_with (first | go_big_skip)
                  clear c1 c2
                  go_roundw
                  case rel => exact ⟨k + 1, by omega, by go_num, by rw [HSm.out]; simp [rwB], by rw [HG.out]; simp [HGk.out, rwB], K⟩
                  case measure => (simp [intOf] <;> omega)
            · have ea : (a == cell) = false := by simpa using ha
              go_wp2_with (first | go_big_skip)
              clear c1 c2
              go_roundw
              case rel => exact ⟨k + 1, by omega, by go_num, by rw [HSm.out]; simp [rwB, ha], by rw [HG.out]; simp [rwB, ha], K⟩
              case measure => (simp [intOf] <;> omega)
          by_cases h13 : op = 13
          · subst h13
            by_cases ha : a = cell
            · subst ha
              have ea : (a == a) = true := by simp
              cases hg : goodR E a (q : Int) k with
              | false =>
                have HX : ∀ u, Keeps w u [] → Hid (Calls Try.prog 68 #[.slice (some ad) n cb, .int .i64 (k : Int), .int .i64 (q : Int)] u fun e w' => e = .returned (.int .i64 (refW E q k)) ∧ Keeps u w' []) := fun u K => Lib.hid (HRk.out u K)
                have HGk := Lib.hid hg
                clear hg
                go_wp2_with (first | go_big_skip)
                clear c1 c2
                generalize wr = W0 at K KW ⊢
                have c0 : ∀ p : Later W0, p.1.cell? (ad.add (k * 5)) = some (.int .i64 who) := fun p => HC0.out _ (KW.trans p.2 (by simp))
                refine wp_quiet_later (by kernel_rfl) (by kernel_rfl) ?_
                repeat (first
                  | go_big_quiet_skip
                  | go_big_quiet_step ((go_at_call 68; exact later_of (HX _ (KW.trans (Later.keep _) (by simp))).out)))
                refine wpQuiet_nil ?_
                intro _ hw
                obtain ⟨p', rfl⟩ := hw
                replace K := K.trans p'.2 (by simp)
                replace KW := KW.trans p'.2 (by simp)
                clear c0
                generalize p'.1 = W0 at K KW ⊢
                have c1 := HC1.out _ KW
                have c2 := HC2.out _ KW
                go_wp2_with (first | go_big_skip)
                clear c1 c2
                go_roundw
                case rel => exact ⟨k + 1, by omega, by go_num, by rw [HSm.out]; simp [rwB], by rw [HG.out]; simp [HGk.out], K⟩
                case measure => (simp [intOf] <;> omega)
              | true =>
                by_cases he : refW E q k = who
                · have HX : ∀ u, Keeps w u [] → Hid (Calls Try.prog 68 #[.slice (some ad) n cb, .int .i64 (k : Int), .int .i64 (q : Int)] u fun e w' => e = .returned (.int .i64 who) ∧ Keeps u w' []) := fun u K => Lib.hid (by have := HRk.out u K; rwa [he] at this)
                  have HGk := Lib.hid (show goodR E a (q : Int) k = true ∧ refW E q k = who from ⟨hg, he⟩)
                  have e1 : (who == who) = true := by simp
                  clear hg he
                  go_wp2_with (first | go_big_skip)
                  clear c1 c2
                  generalize wr = W0 at K KW ⊢
                  have c0 : ∀ p : Later W0, p.1.cell? (ad.add (k * 5)) = some (.int .i64 who) := fun p => HC0.out _ (KW.trans p.2 (by simp))
                  refine wp_quiet_later (by kernel_rfl) (by kernel_rfl) ?_
                  repeat (first
                    | go_big_quiet_skip
                    | go_big_quiet_step ((go_at_call 68; exact later_of (HX _ (KW.trans (Later.keep _) (by simp))).out)))
                  refine wpQuiet_nil ?_
                  intro _ hw
                  obtain ⟨p', rfl⟩ := hw
                  replace K := K.trans p'.2 (by simp)
                  replace KW := KW.trans p'.2 (by simp)
                  clear c0
                  generalize p'.1 = W0 at K KW ⊢
                  clear e1
                  have c1 := HC1.out _ KW
                  have c2 := HC2.out _ KW
                  go_wp2_with (first | go_big_skip)
                  clear c1 c2
                  go_roundw
                  case rel => exact ⟨k + 1, by omega, by go_num, by rw [HSm.out]; simp [rwB], by rw [HG.out]; simp [HGk.out], K⟩
                  case measure => (simp [intOf] <;> omega)
                · have HX : ∀ u, Keeps w u [] → Hid (Calls Try.prog 68 #[.slice (some ad) n cb, .int .i64 (k : Int), .int .i64 (q : Int)] u fun e w' => e = .returned (.int .i64 (refW E q k)) ∧ Keeps u w' []) := fun u K => Lib.hid (HRk.out u K)
                  have HGk := Lib.hid (show goodR E a (q : Int) k = true ∧ ¬ refW E q k = who from ⟨hg, he⟩)
                  have e1 : (refW E q k == who) = false := by simpa using he
                  clear hg he
                  go_wp2_with (first | go_big_skip)
                  clear c1 c2
                  generalize wr = W0 at K KW ⊢
                  have c0 : ∀ p : Later W0, p.1.cell? (ad.add (k * 5)) = some (.int .i64 who) := fun p => HC0.out _ (KW.trans p.2 (by simp))
                  refine wp_quiet_later (by kernel_rfl) (by kernel_rfl) ?_
                  repeat (first
                    | go_big_quiet_skip
                    | go_big_quiet_step ((go_at_call 68; exact later_of (HX _ (KW.trans (Later.keep _) (by simp))).out)))
                  refine wpQuiet_nil ?_
                  intro _ hw
                  obtain ⟨p', rfl⟩ := hw
                  replace K := K.trans p'.2 (by simp)
                  replace KW := KW.trans p'.2 (by simp)
                  clear c0
                  generalize p'.1 = W0 at K KW ⊢
                  clear e1
                  have c1 := HC1.out _ KW
                  have c2 := HC2.out _ KW
                  go_wp2_with (first | go_big_skip)
                  clear c1 c2
                  go_roundw
                  case rel => exact ⟨k + 1, by omega, by go_num, by rw [HSm.out]; simp [rwB], by rw [HG.out]; simp [HGk.out, rwB], K⟩
                  case measure => (simp [intOf] <;> omega)
            · have ea : (a == cell) = false := by simpa using ha
              go_wp2_with (first | go_big_skip)
              clear c1 c2
              go_roundw
              case rel => exact ⟨k + 1, by omega, by go_num, by rw [HSm.out]; simp [rwB, ha], by rw [HG.out]; simp [rwB, ha], K⟩
              case measure => (simp [intOf] <;> omega)
          have e9 : (op == 9) = false := by simpa using h9
          have e12 : (op == 12) = false := by simpa using h12
          have e13 : (op == 13) = false := by simpa using h13
          go_wp2_with (first | go_big_skip)
          clear c1 c2
          go_roundw
          case rel => exact ⟨k + 1, by omega, by go_num, by rw [HSm.out]; simp [rwB, h12, h13], by rw [HG.out]; simp [rwB, h9, h12, h13], K⟩
          case measure => (simp [intOf] <;> omega)
        · have hkn' : k = n := by omega
          have O := HO0.out.keeps K
          have M := HM0.out.keeps K (by simp)
          rw [hkn']
          clear K KW
          clear HM0 HO0
          cases hs : someR E cell n with
          | false =>
            have HN := Lib.hid (show guardN E cell n (q + 1) = guardN E cell n q by simp [guardN, hs])
            clear hs
            go_wp2_with (first | go_big_skip)
            go_roundw
            case rel => exact ⟨q + 1, by omega, by go_num, O, by rw [HN.out]; exact M⟩
            case measure => (simp [intOf] <;> omega)
          | true =>
            cases hg : goodR E cell (q : Int) n with
            | false =>
              have HN := Lib.hid (show guardN E cell n (q + 1) = guardN E cell n q by simp [guardN, hg])
              clear hs hg
              go_wp2_with (first | go_big_skip)
              go_roundw
              case rel => exact ⟨q + 1, by omega, by go_num, O, by rw [HN.out]; exact M⟩
              case measure => (simp [intOf] <;> omega)
            | true =>
              have HN := Lib.hid (show guardN E cell n (q + 1) = guardN E cell n q ++ [(q : Int)] by simp [guardN, hg, hs])
              clear hs hg
              go_wp2_with (first
                | go_big_skip
                | (refine own_lit1 113 (q : Int) O rfl rfl rfl rfl ?_; clear O; intro W gl O K1 hg; replace M := M.keeps K1 (by simp); clear K1 hg; simp only [Act.put, List.setIfInBounds_toArray, List.set_cons_zero, List.set_cons_succ])
                | (at_builtin; refine own_app w.heap.size _ (guardN E cell n q) (q : Int) gl (.tmp 111) (.tmp 113) (O.drop_ 1) M rfl rfl rfl rfl ((O.get 0 rfl).cell 0) rfl (by simp) (by have := HL.out; omega) ?_; clear O M; intro v1 W O M; simp only [Act.put, List.setIfInBounds_toArray, List.set_cons_zero, List.set_cons_succ]))
              go_roundw
              case rel => exact ⟨q + 1, by omega, by go_num, O, by rw [HN.out]; exact M⟩
              case measure => (simp [intOf] <;> omega)
    · have ML := Lib.hid (show IntL wr _ (guardN E cell n m) from by have := M.list; rwa [show q = m by omega] at this)
      obtain rfl : q = m := by omega
      go_wp2
      go_returns
      exact ⟨⟨_, by rw [HF.out]; rfl, by rw [HF.out]; exact ML.out⟩, O.keep⟩

set_option maxRecDepth 100000 in
theorem refguards_err (hS : SysIn w S A c R d) (hE : EvsAt w B n E) (cell : Int) (h : ¬ (thr S E n).2.2 = 0) : Calls Try.prog 36 #[.agg (sysV S A c R d), .slice B n cb, .int .i64 cell] w (HeldPost (guardR S E n cell) w) := by
  have O := Own.start w []
  have HV : ∀ u, Keeps w u [] → Hid (Calls Try.prog 29 #[.agg (sysV S A c R d), .slice B n cb] u fun e w' => e = .returned (.tuple #[.int .i64 (thr S E n).2.1, .int .i64 (thr S E n).1, .int .i64 (thr S E n).2.2]) ∧ Keeps u w' []) := fun u k => Lib.hid (rvalid_any (hS.kept k) (hE.kept k))
  have HF := Lib.hid (show guardR S E n cell = ([], (thr S E n).2.2) by simp [guardR, h])
  clear hS hE
  generalize hr : guardR S E n cell = r at HF ⊢
  clear hr
  generalize thr S E n = x at *
  obtain ⟨x0, x1, x2⟩ := x
  simp only at *
  go_enter Try.func36, Try.ntmps36
  go_wp2_with (first
    | go_big_skip
    | (refine own_box 3 (sysV S A c R d) O rfl rfl rfl rfl ?_; clear O; intro W a3 O; simp only [Act.put, List.setIfInBounds_toArray, List.set_cons_zero, List.set_cons_succ]; have c3 : ∀ i, W.cell? ⟨a3, i, none⟩ = #[Value.slice A S.np c, .slice R S.nr d, .int .i64 S.gr, .int .i64 S.lk, .int .i64 S.ce][i]? := (O.get 0 rfl).cell)
    | (refine own_load 17 0 O rfl rfl rfl rfl rfl Try.underlying27 rfl (by kernel_rfl) ?_; simp only [Act.put, List.setIfInBounds_toArray, List.set_cons_zero, List.set_cons_succ])
    | (go_at_call 29; refine ((HV _ O.keep).out).mono ?_; rintro e W ⟨rfl, K⟩; replace O := O.keeps K; clear K c3; have c3 : ∀ i, W.cell? ⟨a3, i, none⟩ = #[Value.slice A S.np c, .slice R S.nr d, .int .i64 S.gr, .int .i64 S.lk, .int .i64 S.ce][i]? := (O.get 0 rfl).cell))
  go_returns
  exact ⟨⟨_, by rw [HF.out]; rfl, by rw [HF.out]; exact IntL.nil _⟩, O.keep⟩

set_option maxRecDepth 100000 in
theorem refguards_out (hS : SysIn w S A c R d) (hE : EvsAt w B n E) (cell : Int) (h : (thr S E n).2.2 = 0) (hi : ¬ (0 ≤ cell ∧ cell < S.ce)) : Calls Try.prog 36 #[.agg (sysV S A c R d), .slice B n cb, .int .i64 cell] w (HeldPost (guardR S E n cell) w) := by
  have O := Own.start w []
  have HV : ∀ u, Keeps w u [] → Hid (Calls Try.prog 29 #[.agg (sysV S A c R d), .slice B n cb] u fun e w' => e = .returned (.tuple #[.int .i64 (thr S E n).2.1, .int .i64 (thr S E n).1, .int .i64 (thr S E n).2.2]) ∧ Keeps u w' []) := fun u k => Lib.hid (rvalid_any (hS.kept k) (hE.kept k))
  have HF := Lib.hid (show guardR S E n cell = ([], 1) by simp [guardR, h]; omega)
  have HI : ∀ u, Hid (Calls Try.prog 65 #[.int .i64 cell, .int .i64 S.ce] u fun e w' => e = .returned (.bool false) ∧ u = w') := fun u => Lib.hid (by have := inside_any cell S.ce u; rwa [show (decide (0 ≤ cell) && decide (cell < S.ce)) = false by simp; omega] at this)
  clear hS hE hi
  generalize hr : guardR S E n cell = r at HF ⊢
  clear hr
  generalize thr S E n = x at *
  obtain ⟨x0, x1, x2⟩ := x
  simp only at *
  go_enter Try.func36, Try.ntmps36
  go_wp2_with (first
    | go_big_skip
    | (refine own_box 3 (sysV S A c R d) O rfl rfl rfl rfl ?_; clear O; intro W a3 O; simp only [Act.put, List.setIfInBounds_toArray, List.set_cons_zero, List.set_cons_succ]; have c3 : ∀ i, W.cell? ⟨a3, i, none⟩ = #[Value.slice A S.np c, .slice R S.nr d, .int .i64 S.gr, .int .i64 S.lk, .int .i64 S.ce][i]? := (O.get 0 rfl).cell)
    | (refine own_load 17 0 O rfl rfl rfl rfl rfl Try.underlying27 rfl (by kernel_rfl) ?_; simp only [Act.put, List.setIfInBounds_toArray, List.set_cons_zero, List.set_cons_succ])
    | (go_at_call 29; refine ((HV _ O.keep).out).mono ?_; rintro e W ⟨rfl, K⟩; replace O := O.keeps K; clear K c3; have c3 : ∀ i, W.cell? ⟨a3, i, none⟩ = #[Value.slice A S.np c, .slice R S.nr d, .int .i64 S.gr, .int .i64 S.lk, .int .i64 S.ce][i]? := (O.get 0 rfl).cell)
    | (go_at_call 65; refine ((HI _).out).mono ?_; rintro e W ⟨rfl, rfl⟩))
  go_returns
  exact ⟨⟨_, by rw [HF.out]; rfl, by rw [HF.out]; exact IntL.nil _⟩, O.keep⟩
theorem refguards_any (hS : SysIn w S A c R d) (hE : EvsAt w B n E) (cell : Int) : Calls Try.prog 36 #[.agg (sysV S A c R d), .slice B n cb, .int .i64 cell] w (HeldPost (guardR S E n cell) w) := by
  by_cases h : (thr S E n).2.2 = 0
  · by_cases hi : 0 ≤ cell ∧ cell < S.ce
    · exact refguards_in hS hE cell h hi
    · exact refguards_out hS hE cell h hi
  · exact refguards_err hS hE cell h
end
end Go.Proofs.Ytakmcpadkanggaa

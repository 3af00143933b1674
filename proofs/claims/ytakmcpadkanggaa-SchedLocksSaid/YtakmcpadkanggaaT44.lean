/-
  The walk of SchedLocks.
-/
import Derived.Test.YtakmcpadkanggaaT43
import Derived.Test.YtakmcpadkanggaaT7
namespace Go.Proofs.Ytakmcpadkanggaa
open Go.RowKit Go.Maps Go.Deep

section
variable {S : Sys} {s : LS} {bad : Bool} {who a v : Int} {sh : Bool}
theorem lsOk_8 (h : lsOk S s bad ⟨who, 8, a, v, sh⟩ = true) : 0 ≤ a ∧ a < S.lk ∧ s.lk a = false := by simpa [lsOk, and_assoc] using h
theorem lsOk_9 (h : lsOk S s bad ⟨who, 9, a, v, sh⟩ = true) : 0 ≤ a ∧ a < S.lk ∧ (s.lk a != bad) = true := by simpa [lsOk, and_assoc] using h
theorem lsOk_10 (h : lsOk S s bad ⟨who, 10, a, v, sh⟩ = true) : 0 ≤ a ∧ a < S.gr ∧ (decide (v < 0) == bad) = true := by simpa [lsOk, and_assoc] using h
theorem lsOk_11 (h : lsOk S s bad ⟨who, 11, a, v, sh⟩ = true) : 0 ≤ a ∧ a < S.gr ∧ s.gr a = 0 := by simpa [lsOk, and_assoc] using h
end
theorem lsN_next {l : List Ev} {k : Nat} (h : k < l.length) : lsN (l.take (k + 1)) = lsNx (lsN (l.take k)) (lE l k) := by
  rw [List.take_succ_eq_append_getElem h, lsN_snoc]
  simp [lE, List.getD_eq_getElem?_getD, h]
section
variable {w : World} {S : Sys} {A : Option Addr} {c0 : Nat} {R : Option Addr} {d : Nat} {picks : List Int} {pv : Value}
set_option maxRecDepth 100000 in
theorem slocks_bad (hS : SysIn w S A c0 R d) (hv : validB S = false) : Calls Try.prog 7 #[.agg (sysV S A c0 R d), pv] w fun e w' => e = .returned (.bool true) ∧ Keeps w w' [] := by
  have O := Own.start w []
  have HR := Lib.hid (fun u (k : Keeps w u []) => show Calls Try.prog 23 #[.agg (sysV S A c0 R d)] u fun e w' => e = .returned (.bool false) ∧ Keeps u w' [] from by have := refvalid_any (hS.kept k); rwa [hv] at this)
  clear hv hS
  go_enter Try.func7, Try.ntmps7
  go_wp2_with (first
    | (refine own_box 2 (sysV S A c0 R d) O rfl rfl rfl rfl ?_; clear O; intro W b2 O; simp only [Act.put, List.setIfInBounds_toArray, List.set_cons_zero, List.set_cons_succ])
    | (refine own_load 14 0 O rfl rfl rfl rfl rfl Try.underlying27 rfl (by kernel_rfl) ?_; simp only [Act.put, List.setIfInBounds_toArray, List.set_cons_zero, List.set_cons_succ])
    | (go_at_call 24; refine awake_any.mono ?_; rintro e W ⟨rfl, K⟩; replace O := O.keeps K; clear K)
    | (go_at_call 23; refine (HR.out _ O.keep).mono ?_; rintro e W ⟨rfl, K⟩; replace O := O.keeps K; clear K)
    | go_big_skip)
  go_ret
  exact ⟨rfl, O.keep⟩
set_option maxRecDepth 100000 in
set_option maxHeartbeats 6000000 in
theorem slocks_good (hS : SysIn w S A c0 R d) (hv : validB S = true) (hp : IntL w pv picks) : Calls Try.prog 7 #[.agg (sysV S A c0 R d), pv] w fun e w' => e = .returned (.bool true) ∧ Keeps w w' [] := by
  have O := Own.start w []
  have HR := Lib.hid (fun u (k : Keeps w u []) => show Calls Try.prog 23 #[.agg (sysV S A c0 R d)] u fun e w' => e = .returned (.bool true) ∧ Keeps u w' [] from by have := refvalid_any (hS.kept k); rwa [hv] at this)
  have HP := Lib.hid (fun u (k : Keeps w u []) => playV (hS.kept k) hv (hp.kept k))
  have hh := (headB_iff S).1 ((validB_iff S).1 hv).1
  have h3 := hh.2.2.2.1
  have h4 := hh.2.2.2.2.1
  have h5 := hh.2.2.2.2.2
  rw [shB_iff] at h3 h4 h5
  obtain ⟨gr, hgr⟩ : ∃ m : Nat, S.gr = (m : Int) := ⟨S.gr.toNat, by omega⟩
  obtain ⟨lk, hlk⟩ : ∃ m : Nat, S.lk = (m : Int) := ⟨S.lk.toNat, by omega⟩
  obtain ⟨ce, hce⟩ : ∃ m : Nat, S.ce = (m : Int) := ⟨S.ce.toNat, by omega⟩
  have b1 : lk ≤ 1000000 := by omega
  have b2' : gr ≤ 1000000 := by omega
  have HLK := Lib.hid hlk
  have HGR := Lib.hid hgr
  have esv : sysV S A c0 R d = #[Value.slice A S.np c0, .slice R S.nr d, .int .i64 (gr : Int), .int .i64 (lk : Int), .int .i64 (ce : Int)] := by unfold sysV; rw [hlk, hgr, hce]
  obtain ⟨⟨f1, f2, f3, f4⟩, f5⟩ := play_locks S hv picks
  have HOKS := Lib.hid f5
  clear hv hS hp hh h3 h4 h5 hgr hlk hce f5
  rw [esv] at HR HP ⊢
  clear esv
  generalize playP S picks = X at *
  obtain ⟨fin, fault, P⟩ := X
  simp only at f1 f2 f3 f4 HOKS
  have e1 : (fault != 0) = (fin == 3) := by
    by_cases h : fin = 3
    · have := f1.2 h
      simp [h, this]
    · have : ¬ fault ≠ 0 := fun x => h (f1.1 x)
      simp at this
      simp [h, this]
  have g1 : ¬ fin < 1 := by omega
  have g2 : ¬ (4 : Int) < fin := by omega
  have g3 : ¬ (40000 : Int) < (P.ev.length : Nat) := by omega
  have g4 : P.ev.length ≤ 40000 := f4
  clear f1 f2 f3 f4
  cases hb : (fin == 3) with
  | false =>
    rw [hb] at e1
    have HB := Lib.hid hb
    go_enter Try.func7, Try.ntmps7
    go_wp2_with (first
      | (refine own_box 2 (#[Value.slice A S.np c0, .slice R S.nr d, .int .i64 (gr : Int), .int .i64 (lk : Int), .int .i64 (ce : Int)]) O rfl rfl rfl rfl ?_; clear O; intro W b2 O; simp only [Act.put, List.setIfInBounds_toArray, List.set_cons_zero, List.set_cons_succ]; have c2 : ∀ i, W.cell? ⟨b2, i, none⟩ = #[Value.slice A S.np c0, .slice R S.nr d, .int .i64 (gr : Int), .int .i64 (lk : Int), .int .i64 (ce : Int)][i]? := (O.get 0 rfl).cell)
      | (refine own_load 14 0 O rfl rfl rfl rfl rfl Try.underlying27 rfl (by kernel_rfl) ?_; simp only [Act.put, List.setIfInBounds_toArray, List.set_cons_zero, List.set_cons_succ])
      | (refine own_load 18 0 O rfl rfl rfl rfl rfl Try.underlying27 rfl (by kernel_rfl) ?_; simp only [Act.put, List.setIfInBounds_toArray, List.set_cons_zero, List.set_cons_succ])
      | (go_at_call 24; refine awake_any.mono ?_; rintro e W ⟨rfl, K⟩; replace O := O.keeps K; clear K c2)
      | (go_at_call 23; refine (HR.out _ O.keep).mono ?_; rintro e W ⟨rfl, K⟩; replace O := O.keeps K; clear K)
      | (go_at_call 25; refine (HP.out _ O.keep).mono ?_; rintro e W ⟨v0, rfl, hRV, K⟩; obtain ⟨B, c, cells, mce, rfl, hE, q1, q2, hm, hI⟩ := hRV; have h1c : cells.oneCell' = true := (by obtain ⟨A', c', e', _⟩ := hI; rw [e']; rfl); have HE := Lib.hid (And.intro h1c hE); replace O := O.keeps K; have HO := Lib.hid O; have HB2 := Lib.hid (O.get 0 rfl); clear O; have O := Own.start W []; clear K q1 q2 hm hI hE h1c)
      | (refine own_alloc 5 (#[Value.int .i64 0, .int .i64 0, .slice none 0 0, .int .i64 0, .slice none 0 0]) O rfl rfl rfl (fun _ => by kernel_rfl) ?_; clear O; intro W r5 O; simp only [Act.put, List.setIfInBounds_toArray, List.set_cons_zero, List.set_cons_succ])
      | (refine own_store_row 0 (.tmp 5) (.tmp 21) (cs' := runC fin fault (.slice B P.ev.length c) P.n cells) O rfl rfl rfl rfl rfl rfl (by kernel_rfl) (by rfl) (runC_cell _ _ _ _ _ rfl HE.out.1) ?_; clear O; intro W O; simp only [List.set_cons_zero] at O; have c5 : ∀ i, W.cell? ⟨r5, i, none⟩ = #[Value.int .i64 fin, .int .i64 fault, .slice B P.ev.length c, .int .i64 (P.n : Nat), cells][i]? := (O.get 0 rfl).cell; have c2 : ∀ i, W.cell? ⟨b2, i, none⟩ = #[Value.slice A S.np c0, .slice R S.nr d, .int .i64 (gr : Int), .int .i64 (lk : Int), .int .i64 (ce : Int)][i]? := (HB2.out.keeps O.keep (by simp)).cell)
      | (refine own_makeB 52 lk O rfl rfl rfl rfl b1 ?_; clear O c2 c5; intro W g7 O; simp only [Act.put, List.setIfInBounds_toArray, List.set_cons_zero, List.set_cons_succ]; have c5 : ∀ i, W.cell? ⟨r5, i, none⟩ = #[Value.int .i64 fin, .int .i64 fault, .slice B P.ev.length c, .int .i64 (P.n : Nat), cells][i]? := (O.get 1 rfl).cell; have c2 : ∀ i, W.cell? ⟨b2, i, none⟩ = #[Value.slice A S.np c0, .slice R S.nr d, .int .i64 (gr : Int), .int .i64 (lk : Int), .int .i64 (ce : Int)][i]? := (HB2.out.keeps O.keep (by simp)).cell)
      | (refine own_makeI 55 gr O rfl rfl rfl rfl b2' ?_; clear O c2 c5; intro W g8 O; simp only [Act.put, List.setIfInBounds_toArray, List.set_cons_zero, List.set_cons_succ]; have c5 : ∀ i, W.cell? ⟨r5, i, none⟩ = #[Value.int .i64 fin, .int .i64 fault, .slice B P.ev.length c, .int .i64 (P.n : Nat), cells][i]? := (O.get 2 rfl).cell; have c2 : ∀ i, W.cell? ⟨b2, i, none⟩ = #[Value.slice A S.np c0, .slice R S.nr d, .int .i64 (gr : Int), .int .i64 (lk : Int), .int .i64 (ce : Int)][i]? := (HB2.out.keeps O.keep (by simp)).cell)
      | go_big_skip)
    clear c2 c5 HR HP e1
    generalize hn : P.ev.length = n at *
    generalize P.n = rn at *
    generalize hev : P.ev = ev at *
    have HNL := Lib.hid hn
    clear hn
    go_loopw [59] (fun i wr => ∃ k : Nat, k ≤ n ∧ i = .int .i64 k ∧ Own _ wr [] [(g8, 3, arrI gr (lsN (ev.take k)).gr), (g7, 4, arrB lk (lsN (ev.take k)).lk), (r5, 33, runC fin fault (.slice B n c) rn cells)]) (fun i _ => n - (intOf i).toNat)
    case atStart => exact ⟨0, by omega, rfl, O⟩
    case round =>
      clear O
      obtain ⟨k, hk, rfl, O⟩ := hrel
      by_cases hlt : k < n
      · have g5 : ((k : Int)) < n := by omega
        have g6 : (0 : Int) ≤ k := by omega
        obtain ⟨ad, rfl, hc⟩ := EvsAt.row (u := wr) HE.out.2 hlt
        have HC := Lib.hid hc
        have HOK := Lib.hid (HOKS.out k (lE ev k) (lE_get (by rw [HNL.out]; exact hlt)))
        have HNX := Lib.hid (lsN_next (l := ev) (k := k) (by rw [HNL.out]; exact hlt))
        have HCC := Lib.hid HE.out.1
        generalize lsN (ev.take k) = s at *
        generalize lE ev k = e at *
        obtain ⟨who, op, a, v, sh⟩ := e
        clear hc
        have c5 : ∀ i, wr.cell? ⟨r5, i, none⟩ = #[Value.int .i64 fin, .int .i64 fault, .slice (some ad) n c, .int .i64 (rn : Nat), cells][i]? := (O.get 2 rfl).cell
        have c2 : ∀ i, wr.cell? ⟨b2, i, none⟩ = #[Value.slice A S.np c0, .slice R S.nr d, .int .i64 (gr : Int), .int .i64 (lk : Int), .int .i64 (ce : Int)][i]? := (HB2.out.keeps O.keep (by simp)).cell
        replace HOK := Lib.hid (show lsOk S s false ⟨who, op, a, v, sh⟩ = true from by have h := HOK.out; rwa [show decide (fin = 3) = false by simpa using HB.out, Bool.false_and] at h)
        by_cases o8 : op = 8
        · subst o8
          obtain ⟨q1, q2, q3⟩ := lsOk_8 HOK.out
          obtain ⟨aN, rfl⟩ : ∃ aN : Nat, a = (aN : Int) := ⟨a.toNat, by omega⟩
          have HN := Lib.hid (show lsN (ev.take (k + 1)) = { s with lk := updI s.lk aN true } by rw [HNX.out]; simp [lsNx])
          have q4 : (aN : Int) < lk := by rw [← HLK.out]; exact q2
          have HA := Lib.hid (And.intro (show aN < lk by omega) q3)
          have ak7 := add_zero_ g7 aN
          have ak8 := add_zero_ g8 aN
          have q6 : (0 : Int) ≤ aN := by omega
          clear q1 q2 q3 HOK HNX
          go_wp2_with (first
            | go_big_skip
            | (refine wpList_load_at 63 (cs := evC ⟨who, 8, (aN : Int), v, sh⟩) rfl rfl rfl rfl (fun j hj => HC.out [] _ O.keep (by simp) j hj) Try.underlying37 rfl (by kernel_rfl) ?_; simp only [Act.put, List.setIfInBounds_toArray, List.set_cons_zero, List.set_cons_succ])
            | (refine own_alloc 10 (evC ⟨0, 0, 0, 0, false⟩) O rfl rfl rfl (fun _ => by kernel_rfl) ?_; clear O; intro W b10 O; simp only [Act.put, List.setIfInBounds_toArray, List.set_cons_zero, List.set_cons_succ])
            | (refine own_store_row 0 (.tmp 10) (.tmp 63) (cs' := evC ⟨who, 8, (aN : Int), v, sh⟩) O rfl rfl rfl rfl rfl rfl (by kernel_rfl) (by rfl) (evC_cell _) ?_; clear O c2 c5; intro W O; simp only [List.set_cons_zero] at O; have c10 : ∀ i, W.cell? ⟨b10, i, none⟩ = #[Value.int .i64 who, .int .i64 8, .int .i64 (aN : Int), .int .i64 v, .bool sh][i]? := (O.get 0 rfl).cell; have c2 : ∀ i, W.cell? ⟨b2, i, none⟩ = #[Value.slice A S.np c0, .slice R S.nr d, .int .i64 (gr : Int), .int .i64 (lk : Int), .int .i64 (ce : Int)][i]? := (HB2.out.keeps O.keep (by simp)).cell; have c5 : ∀ i, W.cell? ⟨r5, i, none⟩ = #[Value.int .i64 fin, .int .i64 fault, .slice (some ad) n c, .int .i64 (rn : Nat), cells][i]? := (O.get 3 rfl).cell; have cl : W.cell? ⟨g7, aN, none⟩ = some (.bool false) := ((O.get 2 rfl).cell _).trans ((arrB_get _ _ _ HA.out.1).trans (by rw [HA.out.2])))
            | (refine at_store (.tmp 129) (.const (.bool true)) rfl ?_; refine own_store 2 aN (.bool true) (.tmp 129) (.const (.bool true)) O rfl rfl rfl rfl rfl rfl (by rw [arrB_size]; exact HA.out.1) rfl rfl (by kernel_rfl) (arrB_set _ _ _ _) ?_; clear O cl; intro W O; simp only [List.set_cons_zero, List.set_cons_succ] at O))
          go_roundw
          case rel => exact ⟨k + 1, by omega, by go_num, by rw [HN.out]; exact O.drop_ 1⟩
          case measure => (simp [intOf] <;> omega)
        · by_cases o9 : op = 9
          · subst o9
            obtain ⟨q1, q2, q3⟩ := lsOk_9 HOK.out
            obtain ⟨aN, rfl⟩ : ∃ aN : Nat, a = (aN : Int) := ⟨a.toNat, by omega⟩
            have HN := Lib.hid (show lsN (ev.take (k + 1)) = { s with lk := updI s.lk aN false } by rw [HNX.out]; simp [lsNx])
            have q4 : (aN : Int) < lk := by rw [← HLK.out]; exact q2
            have HA := Lib.hid (And.intro (show aN < lk by omega) (show s.lk aN = true from by simpa using q3))
            have ak7 := add_zero_ g7 aN
            have ak8 := add_zero_ g8 aN
            have q6 : (0 : Int) ≤ aN := by omega
            clear q1 q2 q3 HOK HNX
            go_wp2_with (first
              | go_big_skip
              | (refine wpList_load_at 63 (cs := evC ⟨who, 9, (aN : Int), v, sh⟩) rfl rfl rfl rfl (fun j hj => HC.out [] _ O.keep (by simp) j hj) Try.underlying37 rfl (by kernel_rfl) ?_; simp only [Act.put, List.setIfInBounds_toArray, List.set_cons_zero, List.set_cons_succ])
              | (refine own_alloc 10 (evC ⟨0, 0, 0, 0, false⟩) O rfl rfl rfl (fun _ => by kernel_rfl) ?_; clear O; intro W b10 O; simp only [Act.put, List.setIfInBounds_toArray, List.set_cons_zero, List.set_cons_succ])
              | (refine own_store_row 0 (.tmp 10) (.tmp 63) (cs' := evC ⟨who, 9, (aN : Int), v, sh⟩) O rfl rfl rfl rfl rfl rfl (by kernel_rfl) (by rfl) (evC_cell _) ?_; clear O c2 c5; intro W O; simp only [List.set_cons_zero] at O; have c10 : ∀ i, W.cell? ⟨b10, i, none⟩ = #[Value.int .i64 who, .int .i64 9, .int .i64 (aN : Int), .int .i64 v, .bool sh][i]? := (O.get 0 rfl).cell; have c2 : ∀ i, W.cell? ⟨b2, i, none⟩ = #[Value.slice A S.np c0, .slice R S.nr d, .int .i64 (gr : Int), .int .i64 (lk : Int), .int .i64 (ce : Int)][i]? := (HB2.out.keeps O.keep (by simp)).cell; have c5 : ∀ i, W.cell? ⟨r5, i, none⟩ = #[Value.int .i64 fin, .int .i64 fault, .slice (some ad) n c, .int .i64 (rn : Nat), cells][i]? := (O.get 3 rfl).cell; have cl : W.cell? ⟨g7, aN, none⟩ = some (.bool true) := ((O.get 2 rfl).cell _).trans ((arrB_get _ _ _ HA.out.1).trans (by rw [HA.out.2])))
              | (refine at_store (.tmp 142) (.const (.bool false)) rfl ?_; refine own_store 2 aN (.bool false) (.tmp 142) (.const (.bool false)) O rfl rfl rfl rfl rfl rfl (by rw [arrB_size]; exact HA.out.1) rfl rfl (by kernel_rfl) (arrB_set _ _ _ _) ?_; clear O cl; intro W O; simp only [List.set_cons_zero, List.set_cons_succ] at O))
            go_roundw
            case rel => exact ⟨k + 1, by omega, by go_num, by rw [HN.out]; exact O.drop_ 1⟩
            case measure => (simp [intOf] <;> omega)
          · by_cases o10 : op = 10
            · subst o10
              obtain ⟨q1, q2, q3⟩ := lsOk_10 HOK.out
              obtain ⟨aN, rfl⟩ : ∃ aN : Nat, a = (aN : Int) := ⟨a.toNat, by omega⟩
              have HN := Lib.hid (show lsN (ev.take (k + 1)) = { s with gr := updI s.gr aN v } by rw [HNX.out]; simp [lsNx])
              have q4 : (aN : Int) < gr := by rw [← HGR.out]; exact q2
              have HA := Lib.hid (And.intro (show aN < gr by omega) True.intro)
              have q5 : ¬ v < 0 := by simpa using q3
              have ak7 := add_zero_ g7 aN
              have ak8 := add_zero_ g8 aN
              have q6 : (0 : Int) ≤ aN := by omega
              clear q1 q2 q3 HOK HNX
              go_wp2_with (first
                | go_big_skip
                | (refine wpList_load_at 63 (cs := evC ⟨who, 10, (aN : Int), v, sh⟩) rfl rfl rfl rfl (fun j hj => HC.out [] _ O.keep (by simp) j hj) Try.underlying37 rfl (by kernel_rfl) ?_; simp only [Act.put, List.setIfInBounds_toArray, List.set_cons_zero, List.set_cons_succ])
                | (refine own_alloc 10 (evC ⟨0, 0, 0, 0, false⟩) O rfl rfl rfl (fun _ => by kernel_rfl) ?_; clear O; intro W b10 O; simp only [Act.put, List.setIfInBounds_toArray, List.set_cons_zero, List.set_cons_succ])
                | (refine own_store_row 0 (.tmp 10) (.tmp 63) (cs' := evC ⟨who, 10, (aN : Int), v, sh⟩) O rfl rfl rfl rfl rfl rfl (by kernel_rfl) (by rfl) (evC_cell _) ?_; clear O c2 c5; intro W O; simp only [List.set_cons_zero] at O; have c10 : ∀ i, W.cell? ⟨b10, i, none⟩ = #[Value.int .i64 who, .int .i64 10, .int .i64 (aN : Int), .int .i64 v, .bool sh][i]? := (O.get 0 rfl).cell; have c2 : ∀ i, W.cell? ⟨b2, i, none⟩ = #[Value.slice A S.np c0, .slice R S.nr d, .int .i64 (gr : Int), .int .i64 (lk : Int), .int .i64 (ce : Int)][i]? := (HB2.out.keeps O.keep (by simp)).cell; have c5 : ∀ i, W.cell? ⟨r5, i, none⟩ = #[Value.int .i64 fin, .int .i64 fault, .slice (some ad) n c, .int .i64 (rn : Nat), cells][i]? := (O.get 3 rfl).cell)
                | (refine at_store (.tmp 155) (.tmp 154) rfl ?_; refine own_store 1 aN (.int .i64 v) (.tmp 155) (.tmp 154) O rfl rfl rfl rfl rfl rfl (by rw [arrI_size]; exact HA.out.1) rfl rfl (by kernel_rfl) (arrI_set _ _ _ _) ?_; clear O; intro W O; simp only [List.set_cons_zero, List.set_cons_succ] at O))
              go_roundw
              case rel => exact ⟨k + 1, by omega, by go_num, by rw [HN.out]; exact O.drop_ 1⟩
              case measure => (simp [intOf] <;> omega)
            · by_cases o11 : op = 11
              · subst o11
                obtain ⟨q1, q2, q3⟩ := lsOk_11 HOK.out
                obtain ⟨aN, rfl⟩ : ∃ aN : Nat, a = (aN : Int) := ⟨a.toNat, by omega⟩
                have HN := Lib.hid (show lsN (ev.take (k + 1)) = s by rw [HNX.out]; simp [lsNx])
                have q4 : (aN : Int) < gr := by rw [← HGR.out]; exact q2
                have HA := Lib.hid (And.intro (show aN < gr by omega) q3)
                have ak7 := add_zero_ g7 aN
                have ak8 := add_zero_ g8 aN
                have q6 : (0 : Int) ≤ aN := by omega
                clear q1 q2 q3 HOK HNX
                go_wp2_with (first
                  | go_big_skip
                  | (refine wpList_load_at 63 (cs := evC ⟨who, 11, (aN : Int), v, sh⟩) rfl rfl rfl rfl (fun j hj => HC.out [] _ O.keep (by simp) j hj) Try.underlying37 rfl (by kernel_rfl) ?_; simp only [Act.put, List.setIfInBounds_toArray, List.set_cons_zero, List.set_cons_succ])
                  | (refine own_alloc 10 (evC ⟨0, 0, 0, 0, false⟩) O rfl rfl rfl (fun _ => by kernel_rfl) ?_; clear O; intro W b10 O; simp only [Act.put, List.setIfInBounds_toArray, List.set_cons_zero, List.set_cons_succ])
                  | (refine own_store_row 0 (.tmp 10) (.tmp 63) (cs' := evC ⟨who, 11, (aN : Int), v, sh⟩) O rfl rfl rfl rfl rfl rfl (by kernel_rfl) (by rfl) (evC_cell _) ?_; clear O c2 c5; intro W O; simp only [List.set_cons_zero] at O; have c10 : ∀ i, W.cell? ⟨b10, i, none⟩ = #[Value.int .i64 who, .int .i64 11, .int .i64 (aN : Int), .int .i64 v, .bool sh][i]? := (O.get 0 rfl).cell; have c2 : ∀ i, W.cell? ⟨b2, i, none⟩ = #[Value.slice A S.np c0, .slice R S.nr d, .int .i64 (gr : Int), .int .i64 (lk : Int), .int .i64 (ce : Int)][i]? := (HB2.out.keeps O.keep (by simp)).cell; have c5 : ∀ i, W.cell? ⟨r5, i, none⟩ = #[Value.int .i64 fin, .int .i64 fault, .slice (some ad) n c, .int .i64 (rn : Nat), cells][i]? := (O.get 3 rfl).cell; have cl : W.cell? ⟨g8, aN, none⟩ = some (.int .i64 0) := ((O.get 1 rfl).cell _).trans ((arrI_get _ _ _ HA.out.1).trans (by rw [HA.out.2]))))
                go_roundw
                case rel => exact ⟨k + 1, by omega, by go_num, by rw [HN.out]; exact O.drop_ 1⟩
                case measure => (simp [intOf] <;> omega)
              · have HN := Lib.hid (show lsN (ev.take (k + 1)) = s by rw [HNX.out]; simp [lsNx, o8, o9, o10])
                have e8 : (op == 8) = false := by simpa using o8
                have e9 : (op == 9) = false := by simpa using o9
                have e10 : (op == 10) = false := by simpa using o10
                have e11 : (op == 11) = false := by simpa using o11
                clear o8 o9 o10 o11 HOK HNX
                go_wp2_with (first
                  | go_big_skip
                  | (refine wpList_load_at 63 (cs := evC ⟨who, op, a, v, sh⟩) rfl rfl rfl rfl (fun j hj => HC.out [] _ O.keep (by simp) j hj) Try.underlying37 rfl (by kernel_rfl) ?_; simp only [Act.put, List.setIfInBounds_toArray, List.set_cons_zero, List.set_cons_succ])
                  | (refine own_alloc 10 (evC ⟨0, 0, 0, 0, false⟩) O rfl rfl rfl (fun _ => by kernel_rfl) ?_; clear O; intro W b10 O; simp only [Act.put, List.setIfInBounds_toArray, List.set_cons_zero, List.set_cons_succ])
                  | (refine own_store_row 0 (.tmp 10) (.tmp 63) (cs' := evC ⟨who, op, a, v, sh⟩) O rfl rfl rfl rfl rfl rfl (by kernel_rfl) (by rfl) (evC_cell _) ?_; clear O c2 c5; intro W O; simp only [List.set_cons_zero] at O; have c10 : ∀ i, W.cell? ⟨b10, i, none⟩ = #[Value.int .i64 who, .int .i64 op, .int .i64 a, .int .i64 v, .bool sh][i]? := (O.get 0 rfl).cell; have c2 : ∀ i, W.cell? ⟨b2, i, none⟩ = #[Value.slice A S.np c0, .slice R S.nr d, .int .i64 (gr : Int), .int .i64 (lk : Int), .int .i64 (ce : Int)][i]? := (HB2.out.keeps O.keep (by simp)).cell; have c5 : ∀ i, W.cell? ⟨r5, i, none⟩ = #[Value.int .i64 fin, .int .i64 fault, .slice (some ad) n c, .int .i64 (rn : Nat), cells][i]? := (O.get 3 rfl).cell))
                go_roundw
                case rel => exact ⟨k + 1, by omega, by go_num, by rw [HN.out]; exact O.drop_ 1⟩
                case measure => (simp [intOf] <;> omega)
      · obtain rfl : k = n := by omega
        go_wp2
        go_ret
        exact ⟨rfl, HO.out.keep.trans O.keep (by simp)⟩
  | true =>
    rw [hb] at e1
    have HB := Lib.hid hb
    go_enter Try.func7, Try.ntmps7
    go_wp2_with (first
      | (refine own_box 2 (#[Value.slice A S.np c0, .slice R S.nr d, .int .i64 (gr : Int), .int .i64 (lk : Int), .int .i64 (ce : Int)]) O rfl rfl rfl rfl ?_; clear O; intro W b2 O; simp only [Act.put, List.setIfInBounds_toArray, List.set_cons_zero, List.set_cons_succ]; have c2 : ∀ i, W.cell? ⟨b2, i, none⟩ = #[Value.slice A S.np c0, .slice R S.nr d, .int .i64 (gr : Int), .int .i64 (lk : Int), .int .i64 (ce : Int)][i]? := (O.get 0 rfl).cell)
      | (refine own_load 14 0 O rfl rfl rfl rfl rfl Try.underlying27 rfl (by kernel_rfl) ?_; simp only [Act.put, List.setIfInBounds_toArray, List.set_cons_zero, List.set_cons_succ])
      | (refine own_load 18 0 O rfl rfl rfl rfl rfl Try.underlying27 rfl (by kernel_rfl) ?_; simp only [Act.put, List.setIfInBounds_toArray, List.set_cons_zero, List.set_cons_succ])
      | (go_at_call 24; refine awake_any.mono ?_; rintro e W ⟨rfl, K⟩; replace O := O.keeps K; clear K c2)
      | (go_at_call 23; refine (HR.out _ O.keep).mono ?_; rintro e W ⟨rfl, K⟩; replace O := O.keeps K; clear K)
      | (go_at_call 25; refine (HP.out _ O.keep).mono ?_; rintro e W ⟨v0, rfl, hRV, K⟩; obtain ⟨B, c, cells, mce, rfl, hE, q1, q2, hm, hI⟩ := hRV; have h1c : cells.oneCell' = true := (by obtain ⟨A', c', e', _⟩ := hI; rw [e']; rfl); have HE := Lib.hid (And.intro h1c hE); replace O := O.keeps K; have HO := Lib.hid O; have HB2 := Lib.hid (O.get 0 rfl); clear O; have O := Own.start W []; clear K q1 q2 hm hI hE h1c)
      | (refine own_alloc 5 (#[Value.int .i64 0, .int .i64 0, .slice none 0 0, .int .i64 0, .slice none 0 0]) O rfl rfl rfl (fun _ => by kernel_rfl) ?_; clear O; intro W r5 O; simp only [Act.put, List.setIfInBounds_toArray, List.set_cons_zero, List.set_cons_succ])
      | (refine own_store_row 0 (.tmp 5) (.tmp 21) (cs' := runC fin fault (.slice B P.ev.length c) P.n cells) O rfl rfl rfl rfl rfl rfl (by kernel_rfl) (by rfl) (runC_cell _ _ _ _ _ rfl HE.out.1) ?_; clear O; intro W O; simp only [List.set_cons_zero] at O; have c5 : ∀ i, W.cell? ⟨r5, i, none⟩ = #[Value.int .i64 fin, .int .i64 fault, .slice B P.ev.length c, .int .i64 (P.n : Nat), cells][i]? := (O.get 0 rfl).cell; have c2 : ∀ i, W.cell? ⟨b2, i, none⟩ = #[Value.slice A S.np c0, .slice R S.nr d, .int .i64 (gr : Int), .int .i64 (lk : Int), .int .i64 (ce : Int)][i]? := (HB2.out.keeps O.keep (by simp)).cell)
      | (refine own_makeB 52 lk O rfl rfl rfl rfl b1 ?_; clear O c2 c5; intro W g7 O; simp only [Act.put, List.setIfInBounds_toArray, List.set_cons_zero, List.set_cons_succ]; have c5 : ∀ i, W.cell? ⟨r5, i, none⟩ = #[Value.int .i64 fin, .int .i64 fault, .slice B P.ev.length c, .int .i64 (P.n : Nat), cells][i]? := (O.get 1 rfl).cell; have c2 : ∀ i, W.cell? ⟨b2, i, none⟩ = #[Value.slice A S.np c0, .slice R S.nr d, .int .i64 (gr : Int), .int .i64 (lk : Int), .int .i64 (ce : Int)][i]? := (HB2.out.keeps O.keep (by simp)).cell)
      | (refine own_makeI 55 gr O rfl rfl rfl rfl b2' ?_; clear O c2 c5; intro W g8 O; simp only [Act.put, List.setIfInBounds_toArray, List.set_cons_zero, List.set_cons_succ]; have c5 : ∀ i, W.cell? ⟨r5, i, none⟩ = #[Value.int .i64 fin, .int .i64 fault, .slice B P.ev.length c, .int .i64 (P.n : Nat), cells][i]? := (O.get 2 rfl).cell; have c2 : ∀ i, W.cell? ⟨b2, i, none⟩ = #[Value.slice A S.np c0, .slice R S.nr d, .int .i64 (gr : Int), .int .i64 (lk : Int), .int .i64 (ce : Int)][i]? := (HB2.out.keeps O.keep (by simp)).cell)
      | go_big_skip)
    clear c2 c5 HR HP e1
    generalize hn : P.ev.length = n at *
    generalize P.n = rn at *
    generalize hev : P.ev = ev at *
    have HNL := Lib.hid hn
    clear hn
    go_loopw [59] (fun i wr => ∃ k : Nat, k ≤ n ∧ i = .int .i64 k ∧ Own _ wr [] [(g8, 3, arrI gr (lsN (ev.take k)).gr), (g7, 4, arrB lk (lsN (ev.take k)).lk), (r5, 33, runC fin fault (.slice B n c) rn cells)]) (fun i _ => n - (intOf i).toNat)
    case atStart => exact ⟨0, by omega, rfl, O⟩
    case round =>
      clear O
      obtain ⟨k, hk, rfl, O⟩ := hrel
      by_cases hlt : k < n
      · have g5 : ((k : Int)) < n := by omega
        have g6 : (0 : Int) ≤ k := by omega
        obtain ⟨ad, rfl, hc⟩ := EvsAt.row (u := wr) HE.out.2 hlt
        have HC := Lib.hid hc
        have HOK := Lib.hid (HOKS.out k (lE ev k) (lE_get (by rw [HNL.out]; exact hlt)))
        have HNX := Lib.hid (lsN_next (l := ev) (k := k) (by rw [HNL.out]; exact hlt))
        have HCC := Lib.hid HE.out.1
        generalize lsN (ev.take k) = s at *
        generalize lE ev k = e at *
        obtain ⟨who, op, a, v, sh⟩ := e
        clear hc
        have c5 : ∀ i, wr.cell? ⟨r5, i, none⟩ = #[Value.int .i64 fin, .int .i64 fault, .slice (some ad) n c, .int .i64 (rn : Nat), cells][i]? := (O.get 2 rfl).cell
        have c2 : ∀ i, wr.cell? ⟨b2, i, none⟩ = #[Value.slice A S.np c0, .slice R S.nr d, .int .i64 (gr : Int), .int .i64 (lk : Int), .int .i64 (ce : Int)][i]? := (HB2.out.keeps O.keep (by simp)).cell
        by_cases hl : k + 1 = n
        · replace HOK := Lib.hid (show lsOk S s true ⟨who, op, a, v, sh⟩ = true from by have h := HOK.out; rwa [show decide (fin = 3) = true by simpa using HB.out, Bool.true_and, show decide (k + 1 = n) = true by simpa using hl] at h)
          have g17 : (n : Int) - 1 = k := by omega
          clear hl
          by_cases o8 : op = 8
          · subst o8
            obtain ⟨q1, q2, q3⟩ := lsOk_8 HOK.out
            obtain ⟨aN, rfl⟩ : ∃ aN : Nat, a = (aN : Int) := ⟨a.toNat, by omega⟩
            have HN := Lib.hid (show lsN (ev.take (k + 1)) = { s with lk := updI s.lk aN true } by rw [HNX.out]; simp [lsNx])
            have q4 : (aN : Int) < lk := by rw [← HLK.out]; exact q2
            have HA := Lib.hid (And.intro (show aN < lk by omega) q3)
            have ak7 := add_zero_ g7 aN
            have ak8 := add_zero_ g8 aN
            have q6 : (0 : Int) ≤ aN := by omega
            clear q1 q2 q3 HOK HNX
            go_wp2_with (first
              | go_big_skip
              | (refine wpList_load_at 63 (cs := evC ⟨who, 8, (aN : Int), v, sh⟩) rfl rfl rfl rfl (fun j hj => HC.out [] _ O.keep (by simp) j hj) Try.underlying37 rfl (by kernel_rfl) ?_; simp only [Act.put, List.setIfInBounds_toArray, List.set_cons_zero, List.set_cons_succ])
              | (refine own_alloc 10 (evC ⟨0, 0, 0, 0, false⟩) O rfl rfl rfl (fun _ => by kernel_rfl) ?_; clear O; intro W b10 O; simp only [Act.put, List.setIfInBounds_toArray, List.set_cons_zero, List.set_cons_succ])
              | (refine own_store_row 0 (.tmp 10) (.tmp 63) (cs' := evC ⟨who, 8, (aN : Int), v, sh⟩) O rfl rfl rfl rfl rfl rfl (by kernel_rfl) (by rfl) (evC_cell _) ?_; clear O c2 c5; intro W O; simp only [List.set_cons_zero] at O; have c10 : ∀ i, W.cell? ⟨b10, i, none⟩ = #[Value.int .i64 who, .int .i64 8, .int .i64 (aN : Int), .int .i64 v, .bool sh][i]? := (O.get 0 rfl).cell; have c2 : ∀ i, W.cell? ⟨b2, i, none⟩ = #[Value.slice A S.np c0, .slice R S.nr d, .int .i64 (gr : Int), .int .i64 (lk : Int), .int .i64 (ce : Int)][i]? := (HB2.out.keeps O.keep (by simp)).cell; have c5 : ∀ i, W.cell? ⟨r5, i, none⟩ = #[Value.int .i64 fin, .int .i64 fault, .slice (some ad) n c, .int .i64 (rn : Nat), cells][i]? := (O.get 3 rfl).cell; have cl : W.cell? ⟨g7, aN, none⟩ = some (.bool false) := ((O.get 2 rfl).cell _).trans ((arrB_get _ _ _ HA.out.1).trans (by rw [HA.out.2])))
              | (refine at_store (.tmp 129) (.const (.bool true)) rfl ?_; refine own_store 2 aN (.bool true) (.tmp 129) (.const (.bool true)) O rfl rfl rfl rfl rfl rfl (by rw [arrB_size]; exact HA.out.1) rfl rfl (by kernel_rfl) (arrB_set _ _ _ _) ?_; clear O cl; intro W O; simp only [List.set_cons_zero, List.set_cons_succ] at O))
            go_roundw
            case rel => exact ⟨k + 1, by omega, by go_num, by rw [HN.out]; exact O.drop_ 1⟩
            case measure => (simp [intOf] <;> omega)
          · by_cases o9 : op = 9
            · subst o9
              obtain ⟨q1, q2, q3⟩ := lsOk_9 HOK.out
              obtain ⟨aN, rfl⟩ : ∃ aN : Nat, a = (aN : Int) := ⟨a.toNat, by omega⟩
              have HN := Lib.hid (show lsN (ev.take (k + 1)) = { s with lk := updI s.lk aN false } by rw [HNX.out]; simp [lsNx])
              have q4 : (aN : Int) < lk := by rw [← HLK.out]; exact q2
              have HA := Lib.hid (And.intro (show aN < lk by omega) (show s.lk aN = false from by simpa using q3))
              have ak7 := add_zero_ g7 aN
              have ak8 := add_zero_ g8 aN
              have q6 : (0 : Int) ≤ aN := by omega
              clear q1 q2 q3 HOK HNX
              go_wp2_with (first
                | go_big_skip
                | (refine wpList_load_at 63 (cs := evC ⟨who, 9, (aN : Int), v, sh⟩) rfl rfl rfl rfl (fun j hj => HC.out [] _ O.keep (by simp) j hj) Try.underlying37 rfl (by kernel_rfl) ?_; simp only [Act.put, List.setIfInBounds_toArray, List.set_cons_zero, List.set_cons_succ])
                | (refine own_alloc 10 (evC ⟨0, 0, 0, 0, false⟩) O rfl rfl rfl (fun _ => by kernel_rfl) ?_; clear O; intro W b10 O; simp only [Act.put, List.setIfInBounds_toArray, List.set_cons_zero, List.set_cons_succ])
                | (refine own_store_row 0 (.tmp 10) (.tmp 63) (cs' := evC ⟨who, 9, (aN : Int), v, sh⟩) O rfl rfl rfl rfl rfl rfl (by kernel_rfl) (by rfl) (evC_cell _) ?_; clear O c2 c5; intro W O; simp only [List.set_cons_zero] at O; have c10 : ∀ i, W.cell? ⟨b10, i, none⟩ = #[Value.int .i64 who, .int .i64 9, .int .i64 (aN : Int), .int .i64 v, .bool sh][i]? := (O.get 0 rfl).cell; have c2 : ∀ i, W.cell? ⟨b2, i, none⟩ = #[Value.slice A S.np c0, .slice R S.nr d, .int .i64 (gr : Int), .int .i64 (lk : Int), .int .i64 (ce : Int)][i]? := (HB2.out.keeps O.keep (by simp)).cell; have c5 : ∀ i, W.cell? ⟨r5, i, none⟩ = #[Value.int .i64 fin, .int .i64 fault, .slice (some ad) n c, .int .i64 (rn : Nat), cells][i]? := (O.get 3 rfl).cell; have cl : W.cell? ⟨g7, aN, none⟩ = some (.bool false) := ((O.get 2 rfl).cell _).trans ((arrB_get _ _ _ HA.out.1).trans (by rw [HA.out.2])))
                | (refine at_store (.tmp 142) (.const (.bool false)) rfl ?_; refine own_store 2 aN (.bool false) (.tmp 142) (.const (.bool false)) O rfl rfl rfl rfl rfl rfl (by rw [arrB_size]; exact HA.out.1) rfl rfl (by kernel_rfl) (arrB_set _ _ _ _) ?_; clear O cl; intro W O; simp only [List.set_cons_zero, List.set_cons_succ] at O))
              go_roundw
              case rel => exact ⟨k + 1, by omega, by go_num, by rw [HN.out]; exact O.drop_ 1⟩
              case measure => (simp [intOf] <;> omega)
            · by_cases o10 : op = 10
              · subst o10
                obtain ⟨q1, q2, q3⟩ := lsOk_10 HOK.out
                obtain ⟨aN, rfl⟩ : ∃ aN : Nat, a = (aN : Int) := ⟨a.toNat, by omega⟩
                have HN := Lib.hid (show lsN (ev.take (k + 1)) = { s with gr := updI s.gr aN v } by rw [HNX.out]; simp [lsNx])
                have q4 : (aN : Int) < gr := by rw [← HGR.out]; exact q2
                have HA := Lib.hid (And.intro (show aN < gr by omega) True.intro)
                have q5 : v < 0 := by simpa using q3
                have ak7 := add_zero_ g7 aN
                have ak8 := add_zero_ g8 aN
                have q6 : (0 : Int) ≤ aN := by omega
                clear q1 q2 q3 HOK HNX
                go_wp2_with (first
                  | go_big_skip
                  | (refine wpList_load_at 63 (cs := evC ⟨who, 10, (aN : Int), v, sh⟩) rfl rfl rfl rfl (fun j hj => HC.out [] _ O.keep (by simp) j hj) Try.underlying37 rfl (by kernel_rfl) ?_; simp only [Act.put, List.setIfInBounds_toArray, List.set_cons_zero, List.set_cons_succ])
                  | (refine own_alloc 10 (evC ⟨0, 0, 0, 0, false⟩) O rfl rfl rfl (fun _ => by kernel_rfl) ?_; clear O; intro W b10 O; simp only [Act.put, List.setIfInBounds_toArray, List.set_cons_zero, List.set_cons_succ])
                  | (refine own_store_row 0 (.tmp 10) (.tmp 63) (cs' := evC ⟨who, 10, (aN : Int), v, sh⟩) O rfl rfl rfl rfl rfl rfl (by kernel_rfl) (by rfl) (evC_cell _) ?_; clear O c2 c5; intro W O; simp only [List.set_cons_zero] at O; have c10 : ∀ i, W.cell? ⟨b10, i, none⟩ = #[Value.int .i64 who, .int .i64 10, .int .i64 (aN : Int), .int .i64 v, .bool sh][i]? := (O.get 0 rfl).cell; have c2 : ∀ i, W.cell? ⟨b2, i, none⟩ = #[Value.slice A S.np c0, .slice R S.nr d, .int .i64 (gr : Int), .int .i64 (lk : Int), .int .i64 (ce : Int)][i]? := (HB2.out.keeps O.keep (by simp)).cell; have c5 : ∀ i, W.cell? ⟨r5, i, none⟩ = #[Value.int .i64 fin, .int .i64 fault, .slice (some ad) n c, .int .i64 (rn : Nat), cells][i]? := (O.get 3 rfl).cell)
                  | (refine at_store (.tmp 155) (.tmp 154) rfl ?_; refine own_store 1 aN (.int .i64 v) (.tmp 155) (.tmp 154) O rfl rfl rfl rfl rfl rfl (by rw [arrI_size]; exact HA.out.1) rfl rfl (by kernel_rfl) (arrI_set _ _ _ _) ?_; clear O; intro W O; simp only [List.set_cons_zero, List.set_cons_succ] at O))
                go_roundw
                case rel => exact ⟨k + 1, by omega, by go_num, by rw [HN.out]; exact O.drop_ 1⟩
                case measure => (simp [intOf] <;> omega)
              · by_cases o11 : op = 11
                · subst o11
                  obtain ⟨q1, q2, q3⟩ := lsOk_11 HOK.out
                  obtain ⟨aN, rfl⟩ : ∃ aN : Nat, a = (aN : Int) := ⟨a.toNat, by omega⟩
                  have HN := Lib.hid (show lsN (ev.take (k + 1)) = s by rw [HNX.out]; simp [lsNx])
                  have q4 : (aN : Int) < gr := by rw [← HGR.out]; exact q2
                  have HA := Lib.hid (And.intro (show aN < gr by omega) q3)
                  have ak7 := add_zero_ g7 aN
                  have ak8 := add_zero_ g8 aN
                  have q6 : (0 : Int) ≤ aN := by omega
                  clear q1 q2 q3 HOK HNX
                  go_wp2_with (first
                    | go_big_skip
                    | (refine wpList_load_at 63 (cs := evC ⟨who, 11, (aN : Int), v, sh⟩) rfl rfl rfl rfl (fun j hj => HC.out [] _ O.keep (by simp) j hj) Try.underlying37 rfl (by kernel_rfl) ?_; simp only [Act.put, List.setIfInBounds_toArray, List.set_cons_zero, List.set_cons_succ])
                    | (refine own_alloc 10 (evC ⟨0, 0, 0, 0, false⟩) O rfl rfl rfl (fun _ => by kernel_rfl) ?_; clear O; intro W b10 O; simp only [Act.put, List.setIfInBounds_toArray, List.set_cons_zero, List.set_cons_succ])
                    | (refine own_store_row 0 (.tmp 10) (.tmp 63) (cs' := evC ⟨who, 11, (aN : Int), v, sh⟩) O rfl rfl rfl rfl rfl rfl (by kernel_rfl) (by rfl) (evC_cell _) ?_; clear O c2 c5; intro W O; simp only [List.set_cons_zero] at O; have c10 : ∀ i, W.cell? ⟨b10, i, none⟩ = #[Value.int .i64 who, .int .i64 11, .int .i64 (aN : Int), .int .i64 v, .bool sh][i]? := (O.get 0 rfl).cell; have c2 : ∀ i, W.cell? ⟨b2, i, none⟩ = #[Value.slice A S.np c0, .slice R S.nr d, .int .i64 (gr : Int), .int .i64 (lk : Int), .int .i64 (ce : Int)][i]? := (HB2.out.keeps O.keep (by simp)).cell; have c5 : ∀ i, W.cell? ⟨r5, i, none⟩ = #[Value.int .i64 fin, .int .i64 fault, .slice (some ad) n c, .int .i64 (rn : Nat), cells][i]? := (O.get 3 rfl).cell; have cl : W.cell? ⟨g8, aN, none⟩ = some (.int .i64 0) := ((O.get 1 rfl).cell _).trans ((arrI_get _ _ _ HA.out.1).trans (by rw [HA.out.2]))))
                  go_roundw
                  case rel => exact ⟨k + 1, by omega, by go_num, by rw [HN.out]; exact O.drop_ 1⟩
                  case measure => (simp [intOf] <;> omega)
                · have HN := Lib.hid (show lsN (ev.take (k + 1)) = s by rw [HNX.out]; simp [lsNx, o8, o9, o10])
                  have e8 : (op == 8) = false := by simpa using o8
                  have e9 : (op == 9) = false := by simpa using o9
                  have e10 : (op == 10) = false := by simpa using o10
                  have e11 : (op == 11) = false := by simpa using o11
                  clear o8 o9 o10 o11 HOK HNX
                  go_wp2_with (first
                    | go_big_skip
                    | (refine wpList_load_at 63 (cs := evC ⟨who, op, a, v, sh⟩) rfl rfl rfl rfl (fun j hj => HC.out [] _ O.keep (by simp) j hj) Try.underlying37 rfl (by kernel_rfl) ?_; simp only [Act.put, List.setIfInBounds_toArray, List.set_cons_zero, List.set_cons_succ])
                    | (refine own_alloc 10 (evC ⟨0, 0, 0, 0, false⟩) O rfl rfl rfl (fun _ => by kernel_rfl) ?_; clear O; intro W b10 O; simp only [Act.put, List.setIfInBounds_toArray, List.set_cons_zero, List.set_cons_succ])
                    | (refine own_store_row 0 (.tmp 10) (.tmp 63) (cs' := evC ⟨who, op, a, v, sh⟩) O rfl rfl rfl rfl rfl rfl (by kernel_rfl) (by rfl) (evC_cell _) ?_; clear O c2 c5; intro W O; simp only [List.set_cons_zero] at O; have c10 : ∀ i, W.cell? ⟨b10, i, none⟩ = #[Value.int .i64 who, .int .i64 op, .int .i64 a, .int .i64 v, .bool sh][i]? := (O.get 0 rfl).cell; have c2 : ∀ i, W.cell? ⟨b2, i, none⟩ = #[Value.slice A S.np c0, .slice R S.nr d, .int .i64 (gr : Int), .int .i64 (lk : Int), .int .i64 (ce : Int)][i]? := (HB2.out.keeps O.keep (by simp)).cell; have c5 : ∀ i, W.cell? ⟨r5, i, none⟩ = #[Value.int .i64 fin, .int .i64 fault, .slice (some ad) n c, .int .i64 (rn : Nat), cells][i]? := (O.get 3 rfl).cell))
                  go_roundw
                  case rel => exact ⟨k + 1, by omega, by go_num, by rw [HN.out]; exact O.drop_ 1⟩
                  case measure => (simp [intOf] <;> omega)
        · replace HOK := Lib.hid (show lsOk S s false ⟨who, op, a, v, sh⟩ = true from by have h := HOK.out; rwa [show decide (fin = 3) = true by simpa using HB.out, Bool.true_and, show decide (k + 1 = n) = false by simpa using hl] at h)
          have g17 : ¬ (k : Int) = n - 1 := by omega
          clear hl
          by_cases o8 : op = 8
          · subst o8
            obtain ⟨q1, q2, q3⟩ := lsOk_8 HOK.out
            obtain ⟨aN, rfl⟩ : ∃ aN : Nat, a = (aN : Int) := ⟨a.toNat, by omega⟩
            have HN := Lib.hid (show lsN (ev.take (k + 1)) = { s with lk := updI s.lk aN true } by rw [HNX.out]; simp [lsNx])
            have q4 : (aN : Int) < lk := by rw [← HLK.out]; exact q2
            have HA := Lib.hid (And.intro (show aN < lk by omega) q3)
            have ak7 := add_zero_ g7 aN
            have ak8 := add_zero_ g8 aN
            have q6 : (0 : Int) ≤ aN := by omega
            clear q1 q2 q3 HOK HNX
            go_wp2_with (first
              | go_big_skip
              | (refine wpList_load_at 63 (cs := evC ⟨who, 8, (aN : Int), v, sh⟩) rfl rfl rfl rfl (fun j hj => HC.out [] _ O.keep (by simp) j hj) Try.underlying37 rfl (by kernel_rfl) ?_; simp only [Act.put, List.setIfInBounds_toArray, List.set_cons_zero, List.set_cons_succ])
              | (refine own_alloc 10 (evC ⟨0, 0, 0, 0, false⟩) O rfl rfl rfl (fun _ => by kernel_rfl) ?_; clear O; intro W b10 O; simp only [Act.put, List.setIfInBounds_toArray, List.set_cons_zero, List.set_cons_succ])
              | (refine own_store_row 0 (.tmp 10) (.tmp 63) (cs' := evC ⟨who, 8, (aN : Int), v, sh⟩) O rfl rfl rfl rfl rfl rfl (by kernel_rfl) (by rfl) (evC_cell _) ?_; clear O c2 c5; intro W O; simp only [List.set_cons_zero] at O; have c10 : ∀ i, W.cell? ⟨b10, i, none⟩ = #[Value.int .i64 who, .int .i64 8, .int .i64 (aN : Int), .int .i64 v, .bool sh][i]? := (O.get 0 rfl).cell; have c2 : ∀ i, W.cell? ⟨b2, i, none⟩ = #[Value.slice A S.np c0, .slice R S.nr d, .int .i64 (gr : Int), .int .i64 (lk : Int), .int .i64 (ce : Int)][i]? := (HB2.out.keeps O.keep (by simp)).cell; have c5 : ∀ i, W.cell? ⟨r5, i, none⟩ = #[Value.int .i64 fin, .int .i64 fault, .slice (some ad) n c, .int .i64 (rn : Nat), cells][i]? := (O.get 3 rfl).cell; have cl : W.cell? ⟨g7, aN, none⟩ = some (.bool false) := ((O.get 2 rfl).cell _).trans ((arrB_get _ _ _ HA.out.1).trans (by rw [HA.out.2])))
              | (refine at_store (.tmp 129) (.const (.bool true)) rfl ?_; refine own_store 2 aN (.bool true) (.tmp 129) (.const (.bool true)) O rfl rfl rfl rfl rfl rfl (by rw [arrB_size]; exact HA.out.1) rfl rfl (by kernel_rfl) (arrB_set _ _ _ _) ?_; clear O cl; intro W O; simp only [List.set_cons_zero, List.set_cons_succ] at O))
            go_roundw
            case rel => exact ⟨k + 1, by omega, by go_num, by rw [HN.out]; exact O.drop_ 1⟩
            case measure => (simp [intOf] <;> omega)
          · by_cases o9 : op = 9
            · subst o9
              obtain ⟨q1, q2, q3⟩ := lsOk_9 HOK.out
              obtain ⟨aN, rfl⟩ : ∃ aN : Nat, a = (aN : Int) := ⟨a.toNat, by omega⟩
              have HN := Lib.hid (show lsN (ev.take (k + 1)) = { s with lk := updI s.lk aN false } by rw [HNX.out]; simp [lsNx])
              have q4 : (aN : Int) < lk := by rw [← HLK.out]; exact q2
              have HA := Lib.hid (And.intro (show aN < lk by omega) (show s.lk aN = true from by simpa using q3))
              have ak7 := add_zero_ g7 aN
              have ak8 := add_zero_ g8 aN
              have q6 : (0 : Int) ≤ aN := by omega
              clear q1 q2 q3 HOK HNX
              go_wp2_with (first
                | go_big_skip
                | (refine wpList_load_at 63 (cs := evC ⟨who, 9, (aN : Int), v, sh⟩) rfl rfl rfl rfl (fun j hj => HC.out [] _ O.keep (by simp) j hj) Try.underlying37 rfl (by kernel_rfl) ?_; simp only [Act.put, List.setIfInBounds_toArray, List.set_cons_zero, List.set_cons_succ])
                | (refine own_alloc 10 (evC ⟨0, 0, 0, 0, false⟩) O rfl rfl rfl (fun _ => by kernel_rfl) ?_; clear O; intro W b10 O; simp only [Act.put, List.setIfInBounds_toArray, List.set_cons_zero, List.set_cons_succ])
                | (refine own_store_row 0 (.tmp 10) (.tmp 63) (cs' := evC ⟨who, 9, (aN : Int), v, sh⟩) O rfl rfl rfl rfl rfl rfl (by kernel_rfl) (by rfl) (evC_cell _) ?_; clear O c2 c5; intro W O; simp only [List.set_cons_zero] at O; have c10 : ∀ i, W.cell? ⟨b10, i, none⟩ = #[Value.int .i64 who, .int .i64 9, .int .i64 (aN : Int), .int .i64 v, .bool sh][i]? := (O.get 0 rfl).cell; have c2 : ∀ i, W.cell? ⟨b2, i, none⟩ = #[Value.slice A S.np c0, .slice R S.nr d, .int .i64 (gr : Int), .int .i64 (lk : Int), .int .i64 (ce : Int)][i]? := (HB2.out.keeps O.keep (by simp)).cell; have c5 : ∀ i, W.cell? ⟨r5, i, none⟩ = #[Value.int .i64 fin, .int .i64 fault, .slice (some ad) n c, .int .i64 (rn : Nat), cells][i]? := (O.get 3 rfl).cell; have cl : W.cell? ⟨g7, aN, none⟩ = some (.bool true) := ((O.get 2 rfl).cell _).trans ((arrB_get _ _ _ HA.out.1).trans (by rw [HA.out.2])))
                | (refine at_store (.tmp 142) (.const (.bool false)) rfl ?_; refine own_store 2 aN (.bool false) (.tmp 142) (.const (.bool false)) O rfl rfl rfl rfl rfl rfl (by rw [arrB_size]; exact HA.out.1) rfl rfl (by kernel_rfl) (arrB_set _ _ _ _) ?_; clear O cl; intro W O; simp only [List.set_cons_zero, List.set_cons_succ] at O))
              go_roundw
              case rel => exact ⟨k + 1, by omega, by go_num, by rw [HN.out]; exact O.drop_ 1⟩
              case measure => (simp [intOf] <;> omega)
            · by_cases o10 : op = 10
              · subst o10
                obtain ⟨q1, q2, q3⟩ := lsOk_10 HOK.out
                obtain ⟨aN, rfl⟩ : ∃ aN : Nat, a = (aN : Int) := ⟨a.toNat, by omega⟩
                have HN := Lib.hid (show lsN (ev.take (k + 1)) = { s with gr := updI s.gr aN v } by rw [HNX.out]; simp [lsNx])
                have q4 : (aN : Int) < gr := by rw [← HGR.out]; exact q2
                have HA := Lib.hid (And.intro (show aN < gr by omega) True.intro)
                have q5 : ¬ v < 0 := by simpa using q3
                have ak7 := add_zero_ g7 aN
                have ak8 := add_zero_ g8 aN
                have q6 : (0 : Int) ≤ aN := by omega
                clear q1 q2 q3 HOK HNX
                go_wp2_with (first
                  | go_big_skip
                  | (refine wpList_load_at 63 (cs := evC ⟨who, 10, (aN : Int), v, sh⟩) rfl rfl rfl rfl (fun j hj => HC.out [] _ O.keep (by simp) j hj) Try.underlying37 rfl (by kernel_rfl) ?_; simp only [Act.put, List.setIfInBounds_toArray, List.set_cons_zero, List.set_cons_succ])
                  | (refine own_alloc 10 (evC ⟨0, 0, 0, 0, false⟩) O rfl rfl rfl (fun _ => by kernel_rfl) ?_; clear O; intro W b10 O; simp only [Act.put, List.setIfInBounds_toArray, List.set_cons_zero, List.set_cons_succ])
                  | (refine own_store_row 0 (.tmp 10) (.tmp 63) (cs' := evC ⟨who, 10, (aN : Int), v, sh⟩) O rfl rfl rfl rfl rfl rfl (by kernel_rfl) (by rfl) (evC_cell _) ?_; clear O c2 c5; intro W O; simp only [List.set_cons_zero] at O; have c10 : ∀ i, W.cell? ⟨b10, i, none⟩ = #[Value.int .i64 who, .int .i64 10, .int .i64 (aN : Int), .int .i64 v, .bool sh][i]? := (O.get 0 rfl).cell; have c2 : ∀ i, W.cell? ⟨b2, i, none⟩ = #[Value.slice A S.np c0, .slice R S.nr d, .int .i64 (gr : Int), .int .i64 (lk : Int), .int .i64 (ce : Int)][i]? := (HB2.out.keeps O.keep (by simp)).cell; have c5 : ∀ i, W.cell? ⟨r5, i, none⟩ = #[Value.int .i64 fin, .int .i64 fault, .slice (some ad) n c, .int .i64 (rn : Nat), cells][i]? := (O.get 3 rfl).cell)
                  | (refine at_store (.tmp 155) (.tmp 154) rfl ?_; refine own_store 1 aN (.int .i64 v) (.tmp 155) (.tmp 154) O rfl rfl rfl rfl rfl rfl (by rw [arrI_size]; exact HA.out.1) rfl rfl (by kernel_rfl) (arrI_set _ _ _ _) ?_; clear O; intro W O; simp only [List.set_cons_zero, List.set_cons_succ] at O))
                go_roundw
                case rel => exact ⟨k + 1, by omega, by go_num, by rw [HN.out]; exact O.drop_ 1⟩
                case measure => (simp [intOf] <;> omega)
              · by_cases o11 : op = 11
                · subst o11
                  obtain ⟨q1, q2, q3⟩ := lsOk_11 HOK.out
                  obtain ⟨aN, rfl⟩ : ∃ aN : Nat, a = (aN : Int) := ⟨a.toNat, by omega⟩
                  have HN := Lib.hid (show lsN (ev.take (k + 1)) = s by rw [HNX.out]; simp [lsNx])
                  have q4 : (aN : Int) < gr := by rw [← HGR.out]; exact q2
                  have HA := Lib.hid (And.intro (show aN < gr by omega) q3)
                  have ak7 := add_zero_ g7 aN
                  have ak8 := add_zero_ g8 aN
                  have q6 : (0 : Int) ≤ aN := by omega
                  clear q1 q2 q3 HOK HNX
                  go_wp2_with (first
                    | go_big_skip
                    | (refine wpList_load_at 63 (cs := evC ⟨who, 11, (aN : Int), v, sh⟩) rfl rfl rfl rfl (fun j hj => HC.out [] _ O.keep (by simp) j hj) Try.underlying37 rfl (by kernel_rfl) ?_; simp only [Act.put, List.setIfInBounds_toArray, List.set_cons_zero, List.set_cons_succ])
                    | (refine own_alloc 10 (evC ⟨0, 0, 0, 0, false⟩) O rfl rfl rfl (fun _ => by kernel_rfl) ?_; clear O; intro W b10 O; simp only [Act.put, List.setIfInBounds_toArray, List.set_cons_zero, List.set_cons_succ])
                    | (refine own_store_row 0 (.tmp 10) (.tmp 63) (cs' := evC ⟨who, 11, (aN : Int), v, sh⟩) O rfl rfl rfl rfl rfl rfl (by kernel_rfl) (by rfl) (evC_cell _) ?_; clear O c2 c5; intro W O; simp only [List.set_cons_zero] at O; have c10 : ∀ i, W.cell? ⟨b10, i, none⟩ = #[Value.int .i64 who, .int .i64 11, .int .i64 (aN : Int), .int .i64 v, .bool sh][i]? := (O.get 0 rfl).cell; have c2 : ∀ i, W.cell? ⟨b2, i, none⟩ = #[Value.slice A S.np c0, .slice R S.nr d, .int .i64 (gr : Int), .int .i64 (lk : Int), .int .i64 (ce : Int)][i]? := (HB2.out.keeps O.keep (by simp)).cell; have c5 : ∀ i, W.cell? ⟨r5, i, none⟩ = #[Value.int .i64 fin, .int .i64 fault, .slice (some ad) n c, .int .i64 (rn : Nat), cells][i]? := (O.get 3 rfl).cell; have cl : W.cell? ⟨g8, aN, none⟩ = some (.int .i64 0) := ((O.get 1 rfl).cell _).trans ((arrI_get _ _ _ HA.out.1).trans (by rw [HA.out.2]))))
                  go_roundw
                  case rel => exact ⟨k + 1, by omega, by go_num, by rw [HN.out]; exact O.drop_ 1⟩
                  case measure => (simp [intOf] <;> omega)
                · have HN := Lib.hid (show lsN (ev.take (k + 1)) = s by rw [HNX.out]; simp [lsNx, o8, o9, o10])
                  have e8 : (op == 8) = false := by simpa using o8
                  have e9 : (op == 9) = false := by simpa using o9
                  have e10 : (op == 10) = false := by simpa using o10
                  have e11 : (op == 11) = false := by simpa using o11
                  clear o8 o9 o10 o11 HOK HNX
                  go_wp2_with (first
                    | go_big_skip
                    | (refine wpList_load_at 63 (cs := evC ⟨who, op, a, v, sh⟩) rfl rfl rfl rfl (fun j hj => HC.out [] _ O.keep (by simp) j hj) Try.underlying37 rfl (by kernel_rfl) ?_; simp only [Act.put, List.setIfInBounds_toArray, List.set_cons_zero, List.set_cons_succ])
                    | (refine own_alloc 10 (evC ⟨0, 0, 0, 0, false⟩) O rfl rfl rfl (fun _ => by kernel_rfl) ?_; clear O; intro W b10 O; simp only [Act.put, List.setIfInBounds_toArray, List.set_cons_zero, List.set_cons_succ])
                    | (refine own_store_row 0 (.tmp 10) (.tmp 63) (cs' := evC ⟨who, op, a, v, sh⟩) O rfl rfl rfl rfl rfl rfl (by kernel_rfl) (by rfl) (evC_cell _) ?_; clear O c2 c5; intro W O; simp only [List.set_cons_zero] at O; have c10 : ∀ i, W.cell? ⟨b10, i, none⟩ = #[Value.int .i64 who, .int .i64 op, .int .i64 a, .int .i64 v, .bool sh][i]? := (O.get 0 rfl).cell; have c2 : ∀ i, W.cell? ⟨b2, i, none⟩ = #[Value.slice A S.np c0, .slice R S.nr d, .int .i64 (gr : Int), .int .i64 (lk : Int), .int .i64 (ce : Int)][i]? := (HB2.out.keeps O.keep (by simp)).cell; have c5 : ∀ i, W.cell? ⟨r5, i, none⟩ = #[Value.int .i64 fin, .int .i64 fault, .slice (some ad) n c, .int .i64 (rn : Nat), cells][i]? := (O.get 3 rfl).cell))
                  go_roundw
                  case rel => exact ⟨k + 1, by omega, by go_num, by rw [HN.out]; exact O.drop_ 1⟩
                  case measure => (simp [intOf] <;> omega)
      · obtain rfl : k = n := by omega
        go_wp2
        go_ret
        exact ⟨rfl, HO.out.keep.trans O.keep (by simp)⟩
end
end Go.Proofs.Ytakmcpadkanggaa

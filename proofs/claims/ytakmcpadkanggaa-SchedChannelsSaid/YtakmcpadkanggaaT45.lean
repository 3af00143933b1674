/-
  The walk of SchedChannels.
-/
import Derived.Test.YtakmcpadkanggaaT43
import Derived.Test.YtakmcpadkanggaaT7
namespace Go.Proofs.Ytakmcpadkanggaa
open Go.RowKit Go.Maps Go.Deep

theorem HRow.len {base : Nat} {W : World} {A : Option Addr} {m c : Nat} {xs : List Int} (h : HRow base W (.slice A m c) xs) : m = xs.length := by
  rcases h with ⟨h, rfl⟩ | ⟨g, off, cap, cur, h, _⟩
  · injection h with _ h _
  · injection h with _ h _
section
variable {S : Sys} {cN : Nat} {s : CS} {who v : Int} {sh : Bool}
theorem csOk_5 (h : csOk S cN s ⟨who, 5, cN, v, sh⟩ = true) : s.cl = false ∧ (s.held.length : Int) + 1 ≤ S.rm cN := by simpa [csOk] using h
theorem csOk_7 (h : csOk S cN s ⟨who, 7, cN, v, sh⟩ = true) : s.cl = false := by simpa [csOk] using h
theorem csOk_6t (h : csOk S cN s ⟨who, 6, cN, v, true⟩ = true) : s.cl = true ∧ s.held = [] := by simpa [csOk] using h
theorem csOk_6f (h : csOk S cN s ⟨who, 6, cN, v, false⟩ = true) : s.held.head? = some v := by simpa [csOk] using h
end
theorem csN_next {c : Nat} {l : List Ev} {k : Nat} (h : k < l.length) : csN c (l.take (k + 1)) = csNx c (csN c (l.take k)) (lE l k) := by
  rw [List.take_succ_eq_append_getElem h, csN_snoc]
  simp [lE, List.getD_eq_getElem?_getD, h]
theorem csNx_len (c : Nat) (s : CS) (e : Ev) : (csNx c s e).held.length ≤ s.held.length + 1 := by
  unfold csNx
  split
  · split
    · simp
    · split
      · simp
      · split
        · split
          · simp
          · simp; omega
        · simp
  · simp
theorem csN_len' (c : Nat) : ∀ (l : List Ev) (s : CS), (l.foldl (csNx c) s).held.length ≤ s.held.length + l.length
  | [], s => Nat.le_refl _
  | e :: l, s => by
    have h1 := csN_len' c l (csNx c s e)
    have h2 := csNx_len c s e
    simp only [List.foldl_cons, List.length_cons]
    omega
theorem csN_len (c : Nat) (l : List Ev) : (csN c l).held.length ≤ l.length := by
  have := csN_len' c l ⟨[], false⟩
  simpa [csN] using this
section
variable {w : World} {S : Sys} {A : Option Addr} {c0 : Nat} {R : Option Addr} {d : Nat} {picks : List Int} {pv : Value}
set_option maxRecDepth 100000 in
theorem schan_bad (hS : SysIn w S A c0 R d) (hv : validB S = false) : Calls Try.prog 6 #[.agg (sysV S A c0 R d), pv] w fun e w' => e = .returned (.bool true) ∧ Keeps w w' [] := by
  have O := Own.start w []
  have HR := Lib.hid (fun u (k : Keeps w u []) => show Calls Try.prog 23 #[.agg (sysV S A c0 R d)] u fun e w' => e = .returned (.bool false) ∧ Keeps u w' [] from by have := refvalid_any (hS.kept k); rwa [hv] at this)
  clear hv hS
  go_enter Try.func6, Try.ntmps6
  go_wp2_with (first
    | (refine own_box 2 (sysV S A c0 R d) O rfl rfl rfl rfl ?_; clear O; intro W b2 O; simp only [Act.put, List.setIfInBounds_toArray, List.set_cons_zero, List.set_cons_succ])
    | (refine own_load 15 0 O rfl rfl rfl rfl rfl Try.underlying27 rfl (by kernel_rfl) ?_; simp only [Act.put, List.setIfInBounds_toArray, List.set_cons_zero, List.set_cons_succ])
    | (go_at_call 24; refine awake_any.mono ?_; rintro e W ⟨rfl, K⟩; replace O := O.keeps K; clear K)
    | (go_at_call 23; refine (HR.out _ O.keep).mono ?_; rintro e W ⟨rfl, K⟩; replace O := O.keeps K; clear K)
    | go_big_skip)
  go_ret
  exact ⟨rfl, O.keep⟩
set_option maxRecDepth 100000 in
set_option maxHeartbeats 6000000 in
theorem schan_good (hS : SysIn w S A c0 R d) (hv : validB S = true) (hp : IntL w pv picks) : Calls Try.prog 6 #[.agg (sysV S A c0 R d), pv] w fun e w' => e = .returned (.bool true) ∧ Keeps w w' [] := by
  have O := Own.start w []
  have HR := Lib.hid (fun u (k : Keeps w u []) => show Calls Try.prog 23 #[.agg (sysV S A c0 R d)] u fun e w' => e = .returned (.bool true) ∧ Keeps u w' [] from by have := refvalid_any (hS.kept k); rwa [hv] at this)
  have HP := Lib.hid (fun u (k : Keeps w u []) => playV (hS.kept k) hv (hp.kept k))
  have hh := (headB_iff S).1 ((validB_iff S).1 hv).1
  have h3 := hh.2.2.2.1
  have h4 := hh.2.2.2.2.1
  have h5 := hh.2.2.2.2.2
  rw [shB_iff] at h3 h4 h5
  obtain ⟨gr, hgr⟩ : ∃ m : Nat, S.gr = (m : Int) := ⟨S.gr.toNat, by omega⟩
  obtain ⟨lk, hlk⟩ : ∃ m : Nat, S.lk = (m : Int) := ⟨S.lk.toNat, by omega⟩
  obtain ⟨ce, hce⟩ : ∃ m : Nat, S.ce = (m : Int) := ⟨S.ce.toNat, by omega⟩
  have esv : sysV S A c0 R d = #[Value.slice A S.np c0, .slice R S.nr d, .int .i64 (gr : Int), .int .i64 (lk : Int), .int .i64 (ce : Int)] := by unfold sysV; rw [hlk, hgr, hce]
  have g4 : (playP S picks).P.ev.length ≤ 40000 := (play_locks S hv picks).1.2.2.2
  have hch := fun c => play_chan S c hv picks
  have HSN := Lib.hid hS
  have hnr : (S.nr : Int) ≤ 64 := by have := hh.2.2.1; omega
  clear hv hS hp hh h3 h4 h5 hgr hlk hce
  rw [esv] at HR HP ⊢
  clear esv
  generalize playP S picks = X at *
  obtain ⟨fin, fault, P⟩ := X
  simp only at g4
  have HCH := Lib.hid (show ∀ c i e, P.ev[i]? = some e → (fin = 3 ∧ i + 1 = P.ev.length) ∨ csOk S c (csN c (P.ev.take i)) e = true from hch)
  clear hch
  cases hb : (fin == 3) with
  | false =>
    have HB := Lib.hid hb
    go_enter Try.func6, Try.ntmps6
    go_wp2_with (first
      | (refine own_box 2 (#[Value.slice A S.np c0, .slice R S.nr d, .int .i64 (gr : Int), .int .i64 (lk : Int), .int .i64 (ce : Int)]) O rfl rfl rfl rfl ?_; clear O; intro W b2 O; simp only [Act.put, List.setIfInBounds_toArray, List.set_cons_zero, List.set_cons_succ])
      | (refine own_load 15 0 O rfl rfl rfl rfl rfl Try.underlying27 rfl (by kernel_rfl) ?_; simp only [Act.put, List.setIfInBounds_toArray, List.set_cons_zero, List.set_cons_succ])
      | (refine own_load 19 0 O rfl rfl rfl rfl rfl Try.underlying27 rfl (by kernel_rfl) ?_; simp only [Act.put, List.setIfInBounds_toArray, List.set_cons_zero, List.set_cons_succ])
      | (go_at_call 24; refine awake_any.mono ?_; rintro e W ⟨rfl, K⟩; replace O := O.keeps K; clear K)
      | (go_at_call 23; refine (HR.out _ O.keep).mono ?_; rintro e W ⟨rfl, K⟩; replace O := O.keeps K; clear K)
      | (go_at_call 25; refine (HP.out _ O.keep).mono ?_; rintro e W ⟨v0, rfl, hRV, K⟩; obtain ⟨B, c, cells, mce, rfl, hE, q1, q2, hm, hI⟩ := hRV; have h1c : cells.oneCell' = true := (by obtain ⟨A', c', e', _⟩ := hI; rw [e']; rfl); have HE := Lib.hid (And.intro h1c hE); replace O := O.keeps K; have HO := Lib.hid O; have HB2 := Lib.hid (O.get 0 rfl); clear O; have O := Own.start W []; clear K q1 q2 hm hI hE h1c)
      | (refine own_alloc 5 (#[Value.int .i64 0, .int .i64 0, .slice none 0 0, .int .i64 0, .slice none 0 0]) O rfl rfl rfl (fun _ => by kernel_rfl) ?_; clear O; intro W r5 O; simp only [Act.put, List.setIfInBounds_toArray, List.set_cons_zero, List.set_cons_succ])
      | (refine own_store_row 0 (.tmp 5) (.tmp 22) (cs' := runC fin fault (.slice B P.ev.length c) P.n cells) O rfl rfl rfl rfl rfl rfl (by kernel_rfl) (by rfl) (runC_cell _ _ _ _ _ rfl HE.out.1) ?_; clear O; intro W O; simp only [List.set_cons_zero] at O)
      | go_big_skip)
    clear HP
    generalize hn : P.ev.length = n at *
    generalize P.n = rn at *
    generalize hev : P.ev = ev at *
    have HNL := Lib.hid hn
    clear hn
    go_loopw [7] (fun i wr => ∃ k : Nat, k ≤ S.nr ∧ i = .int .i64 k ∧ Own _ wr [] [(r5, 33, runC fin fault (.slice B n c) rn cells)]) (fun i _ => S.nr - (intOf i).toNat)
    case atStart => exact ⟨0, by omega, rfl, O⟩
    case round =>
      clear O
      obtain ⟨cN, hk, rfl, O⟩ := hrel
      have c2 : ∀ i, wr.cell? ⟨b2, i, none⟩ = #[Value.slice A S.np c0, .slice R S.nr d, .int .i64 (gr : Int), .int .i64 (lk : Int), .int .i64 (ce : Int)][i]? := (HB2.out.keeps O.keep (by simp)).cell
      have c5 : ∀ i, wr.cell? ⟨r5, i, none⟩ = #[Value.int .i64 fin, .int .i64 fault, .slice B n c, .int .i64 (rn : Nat), cells][i]? := (O.get 0 rfl).cell
      by_cases hlc : cN < S.nr
      · have g5 : ((cN : Int)) < S.nr := by omega
        have g6 : (0 : Int) ≤ cN := by omega
        obtain ⟨rd, rfl, hrb, hrc⟩ := HSN.out.rooms (by omega)
        have HRM := Lib.hid (show ∀ u, Keeps _ u [] → u.cell? (rd.add cN) = some (.int .i64 (S.rm cN)) from fun u K => ((HO.out.keep.trans K (by simp)).cellAt (by rw [add_block]; exact hrb) (by simp)).trans (hrc cN hlc))
        have HHK := Lib.hid (HCH.out cN)
        clear hrb hrc
        have M : OM _ wr [(r5, 33, runC fin fault (.slice B n c) rn cells)] ⟨.slice none 0 0, [], 1, fun _ => .slice none 0 0, fun _ => []⟩ := ⟨O, World.ownsRow_nil _ _ _ _, fun c _ => HRow.nil _ _, fun q _ h => (by cases h), fun c _ q _ h => (by cases h), fun c c' _ _ _ g h => (by cases h)⟩
        clear O
        go_wp2
        clear c2 c5
        go_loopw [36, 8, 9] (fun i h s wr => ∃ k hv held cl, k ≤ n ∧ i = .int .i64 (k : Nat) ∧ h = hv 0 ∧ s = .bool cl ∧ (k < n → csN cN (ev.take k) = ⟨held 0, cl⟩) ∧ OM _ wr [(r5, 33, runC fin fault (.slice B n c) rn cells)] ⟨.slice none 0 0, [], 1, hv, held⟩) (fun i _ _ _ => n - (intOf i).toNat)
        case atStart => exact ⟨0, fun _ => .slice none 0 0, fun _ => [], false, by omega, rfl, rfl, rfl, fun _ => rfl, M⟩
        case round =>
          clear M
          obtain ⟨k, hv, held, cl, hk2, rfl, rfl, rfl, hcs, M⟩ := hrel
          by_cases hlt : k < n
          · have g7 : ((k : Int)) < n := by omega
            have g10 : (0 : Int) ≤ k := by omega
            obtain ⟨ad, rfl, hc⟩ := EvsAt.row (u := wr) HE.out.2 hlt
            have HC := Lib.hid hc
            have hst := hcs hlt
            have HNX := Lib.hid (csN_next (c := cN) (l := ev) (k := k) (by rw [HNL.out]; exact hlt))
            have HHO := Lib.hid (HHK.out k (lE ev k) (lE_get (by rw [HNL.out]; exact hlt)))
            have HLN := Lib.hid (show (held 0).length ≤ 1000000 from by have := csN_len cN (ev.take k); rw [hst] at this; have h2 : (ev.take k).length ≤ k := List.length_take_le _ _; have : (held 0).length ≤ (ev.take k).length := this; omega)
            rw [hst] at HNX HHO
            clear hst hcs
            generalize lE ev k = e at *
            obtain ⟨who, op, a, v, sh⟩ := e
            clear hc
            have c5 : ∀ i, wr.cell? ⟨r5, i, none⟩ = #[Value.int .i64 fin, .int .i64 fault, .slice (some ad) n c, .int .i64 (rn : Nat), cells][i]? := (M.get 0 rfl).cell
            have c2 : ∀ i, wr.cell? ⟨b2, i, none⟩ = #[Value.slice A S.np c0, .slice (some rd) S.nr d, .int .i64 (gr : Int), .int .i64 (lk : Int), .int .i64 (ce : Int)][i]? := (HB2.out.keeps M.own.keep (by simp)).cell
            have c6 : wr.cell? (rd.add cN) = some (.int .i64 (S.rm cN)) := HRM.out _ M.own.keep
            have HOK := Lib.hid (show csOk S cN ⟨held 0, cl⟩ ⟨who, op, a, v, sh⟩ = true from by rcases HHO.out with h | h; exact absurd h.1 (by simpa using HB.out); exact h)
            clear HHO
            by_cases ha : a = (cN : Int)
            · subst ha
              have ec : ((cN : Int) != (cN : Int)) = false := by simp
              by_cases o5 : op = 5
              · subst o5
                obtain ⟨q1, q2⟩ := csOk_5 HOK.out
                have q1 : cl = false := q1
                subst q1
                have HN := Lib.hid (show csN cN (ev.take (k + 1)) = ⟨updN held 0 (held 0 ++ [v]) 0, false⟩ by rw [HNX.out, updN_same]; simp [csNx])
                have HA := Lib.hid (show ((held 0).length : Int) + 1 ≤ S.rm cN from q2)
                clear q2 HOK HNX
                go_wp2_with (first
                  | go_big_skip
                  | (refine wpList_load_at 40 (cs := evC ⟨who, 5, (cN : Int), v, sh⟩) rfl rfl rfl rfl (fun j hj => HC.out [] _ M.own.keep (by simp) j hj) Try.underlying37 rfl (by kernel_rfl) ?_; simp only [Act.put, List.setIfInBounds_toArray, List.set_cons_zero, List.set_cons_succ])
                  | (refine om_alloc 11 (evC ⟨0, 0, 0, 0, false⟩) M rfl rfl rfl (fun _ => by kernel_rfl) ?_; clear M; intro W b11 M; simp only [Act.put, List.setIfInBounds_toArray, List.set_cons_zero, List.set_cons_succ])
                  | (refine om_store_row 0 (.tmp 11) (.tmp 40) (cs' := evC ⟨who, 5, (cN : Int), v, sh⟩) M rfl rfl rfl rfl rfl rfl (by kernel_rfl) (by rfl) (evC_cell _) ?_; clear M c2 c5 c6; intro W M; simp only [List.set_cons_zero] at M; have c11 : ∀ i, W.cell? ⟨b11, i, none⟩ = #[Value.int .i64 who, .int .i64 5, .int .i64 (cN : Int), .int .i64 v, .bool sh][i]? := (M.get 0 rfl).cell; have c5 : ∀ i, W.cell? ⟨r5, i, none⟩ = #[Value.int .i64 fin, .int .i64 fault, .slice (some ad) n c, .int .i64 (rn : Nat), cells][i]? := (M.get 1 rfl).cell; have c2 : ∀ i, W.cell? ⟨b2, i, none⟩ = #[Value.slice A S.np c0, .slice (some rd) S.nr d, .int .i64 (gr : Int), .int .i64 (lk : Int), .int .i64 (ce : Int)][i]? := (HB2.out.keeps M.own.keep (by simp)).cell; have c6 : W.cell? (rd.add cN) = some (.int .i64 (S.rm cN)) := HRM.out _ M.own.keep)
                  | (refine om_lit_int 66 v M rfl rfl rfl rfl ?_; clear M; intro W gl M; simp only [Act.put, List.setIfInBounds_toArray, List.set_cons_zero, List.set_cons_succ])
                  | (at_builtin; refine om_push v gl 0 (.tmp 63) (.tmp 66) M rfl rfl Nat.zero_lt_one rfl rfl HLN.out ?_; clear M c11 c5 c2 c6; intro A' m' c' W M; simp only [Act.put, List.setIfInBounds_toArray, List.set_cons_zero, List.set_cons_succ]; have c11 : ∀ i, W.cell? ⟨b11, i, none⟩ = #[Value.int .i64 who, .int .i64 5, .int .i64 (cN : Int), .int .i64 v, .bool sh][i]? := (M.get 0 rfl).cell; have c5 : ∀ i, W.cell? ⟨r5, i, none⟩ = #[Value.int .i64 fin, .int .i64 fault, .slice (some ad) n c, .int .i64 (rn : Nat), cells][i]? := (M.get 1 rfl).cell; have c2 : ∀ i, W.cell? ⟨b2, i, none⟩ = #[Value.slice A S.np c0, .slice (some rd) S.nr d, .int .i64 (gr : Int), .int .i64 (lk : Int), .int .i64 (ce : Int)][i]? := (HB2.out.keeps M.own.keep (by simp)).cell; have c6 : W.cell? (rd.add cN) = some (.int .i64 (S.rm cN)) := HRM.out _ M.own.keep; have g8 : ¬ S.rm cN < (m' : Int) := (by have h := HRow.len (show HRow _ W (.slice A' m' c') (held 0 ++ [v]) from M.hr 0 Nat.zero_lt_one); have := HA.out; rw [h, List.length_append]; simp; omega)))
                go_roundw
                case measure => (simp [intOf] <;> omega)
                case rel =>
                  exact ⟨k + 1, updN hv 0 (.slice A' m' c'), updN held 0 (held 0 ++ [v]), false, by omega, by go_num, rfl, rfl, fun _ => HN.out, M.drop_ 1⟩
              · by_cases o7 : op = 7
                · subst o7
                  have q1 : cl = false := csOk_7 HOK.out
                  subst q1
                  have HN := Lib.hid (show csN cN (ev.take (k + 1)) = ⟨held 0, true⟩ by rw [HNX.out]; simp [csNx])
                  clear HOK HNX
                  go_wp2_with (first
                    | go_big_skip
                    | (refine wpList_load_at 40 (cs := evC ⟨who, 7, (cN : Int), v, sh⟩) rfl rfl rfl rfl (fun j hj => HC.out [] _ M.own.keep (by simp) j hj) Try.underlying37 rfl (by kernel_rfl) ?_; simp only [Act.put, List.setIfInBounds_toArray, List.set_cons_zero, List.set_cons_succ])
                    | (refine om_alloc 11 (evC ⟨0, 0, 0, 0, false⟩) M rfl rfl rfl (fun _ => by kernel_rfl) ?_; clear M; intro W b11 M; simp only [Act.put, List.setIfInBounds_toArray, List.set_cons_zero, List.set_cons_succ])
                    | (refine om_store_row 0 (.tmp 11) (.tmp 40) (cs' := evC ⟨who, 7, (cN : Int), v, sh⟩) M rfl rfl rfl rfl rfl rfl (by kernel_rfl) (by rfl) (evC_cell _) ?_; clear M c2 c5 c6; intro W M; simp only [List.set_cons_zero] at M; have c11 : ∀ i, W.cell? ⟨b11, i, none⟩ = #[Value.int .i64 who, .int .i64 7, .int .i64 (cN : Int), .int .i64 v, .bool sh][i]? := (M.get 0 rfl).cell; have c5 : ∀ i, W.cell? ⟨r5, i, none⟩ = #[Value.int .i64 fin, .int .i64 fault, .slice (some ad) n c, .int .i64 (rn : Nat), cells][i]? := (M.get 1 rfl).cell; have c2 : ∀ i, W.cell? ⟨b2, i, none⟩ = #[Value.slice A S.np c0, .slice (some rd) S.nr d, .int .i64 (gr : Int), .int .i64 (lk : Int), .int .i64 (ce : Int)][i]? := (HB2.out.keeps M.own.keep (by simp)).cell; have c6 : W.cell? (rd.add cN) = some (.int .i64 (S.rm cN)) := HRM.out _ M.own.keep))
                  go_roundw
                  case measure => (simp [intOf] <;> omega)
                  case rel =>
                    exact ⟨k + 1, hv, held, true, by omega, by go_num, rfl, rfl, fun _ => HN.out, M.drop_ 1⟩
                · by_cases o6 : op = 6
                  · subst o6
                    cases sh with
                    | true =>
                      obtain ⟨q1, q2⟩ := csOk_6t HOK.out
                      have q1 : cl = true := q1
                      subst q1
                      have q2 : held 0 = [] := q2
                      have HN := Lib.hid (show csN cN (ev.take (k + 1)) = ⟨held 0, true⟩ by rw [HNX.out]; simp [csNx])
                      obtain ⟨A0, c1, hv0⟩ : ∃ A0 c1, hv 0 = .slice A0 0 c1 := by
                        have h := M.hr 0 Nat.zero_lt_one
                        simp only [q2] at h
                        rcases h with ⟨h, _⟩ | ⟨g, off, cap, cur', h, _⟩
                        · exact ⟨_, _, h⟩
                        · exact ⟨_, _, h⟩
                      have HV0 := Lib.hid hv0
                      clear q2 HOK HNX
                      rw [hv0]
                      clear hv0
                      go_wp2_with (first
                        | go_big_skip
                        | (refine wpList_load_at 40 (cs := evC ⟨who, 6, (cN : Int), v, true⟩) rfl rfl rfl rfl (fun j hj => HC.out [] _ M.own.keep (by simp) j hj) Try.underlying37 rfl (by kernel_rfl) ?_; simp only [Act.put, List.setIfInBounds_toArray, List.set_cons_zero, List.set_cons_succ])
                        | (refine om_alloc 11 (evC ⟨0, 0, 0, 0, false⟩) M rfl rfl rfl (fun _ => by kernel_rfl) ?_; clear M; intro W b11 M; simp only [Act.put, List.setIfInBounds_toArray, List.set_cons_zero, List.set_cons_succ])
                        | (refine om_store_row 0 (.tmp 11) (.tmp 40) (cs' := evC ⟨who, 6, (cN : Int), v, true⟩) M rfl rfl rfl rfl rfl rfl (by kernel_rfl) (by rfl) (evC_cell _) ?_; clear M c2 c5 c6; intro W M; simp only [List.set_cons_zero] at M; have c11 : ∀ i, W.cell? ⟨b11, i, none⟩ = #[Value.int .i64 who, .int .i64 6, .int .i64 (cN : Int), .int .i64 v, .bool true][i]? := (M.get 0 rfl).cell; have c5 : ∀ i, W.cell? ⟨r5, i, none⟩ = #[Value.int .i64 fin, .int .i64 fault, .slice (some ad) n c, .int .i64 (rn : Nat), cells][i]? := (M.get 1 rfl).cell; have c2 : ∀ i, W.cell? ⟨b2, i, none⟩ = #[Value.slice A S.np c0, .slice (some rd) S.nr d, .int .i64 (gr : Int), .int .i64 (lk : Int), .int .i64 (ce : Int)][i]? := (HB2.out.keeps M.own.keep (by simp)).cell; have c6 : W.cell? (rd.add cN) = some (.int .i64 (S.rm cN)) := HRM.out _ M.own.keep))
                      go_roundw
                      case measure => (simp [intOf] <;> omega)
                      case rel =>
                        exact ⟨k + 1, hv, held, true, by omega, by go_num, HV0.out.symm, rfl, fun _ => HN.out, M.drop_ 1⟩
                    | false =>
                      have q1 : (held 0).head? = some v := csOk_6f HOK.out
                      obtain ⟨l, hl⟩ : ∃ l, held 0 = v :: l := by
                        cases hh : held 0 with
                        | nil => rw [hh] at q1; cases q1
                        | cons x l => rw [hh] at q1; simp at q1; subst q1; exact ⟨l, rfl⟩
                      have HN := Lib.hid (show csN cN (ev.take (k + 1)) = ⟨updN held 0 l 0, cl⟩ by rw [HNX.out, updN_same]; simp [csNx, hl])
                      obtain ⟨g, off, cc, hv0, hcc⟩ : ∃ g off cc, hv 0 = .slice (some ⟨g, off, none⟩) (l.length + 1) cc ∧ 1 ≤ cc := by
                        have h := M.hr 0 Nat.zero_lt_one
                        simp only [hl] at h
                        rcases h with ⟨_, h⟩ | ⟨g, off, cap, cur', h, _, _, h4, _⟩
                        · cases h
                        · exact ⟨g, off, cap, h, by simp at h4; omega⟩
                      obtain ⟨m1, hm1⟩ : ∃ m1, m1 = l.length + 1 := ⟨_, rfl⟩
                      have gl0 : (0 : Int) < (m1 : Nat) := by omega
                      have gl1 : ¬ ((m1 : Nat) : Int) = 0 := by omega
                      have gl2 : (((m1 : Nat) : Int) == 0) = false := by simp; omega
                      rw [← hm1] at hv0
                      have HV0 := Lib.hid hv0
                      have HH0 := Lib.hid hl
                      have HM1 := Lib.hid hm1
                      rw [hv0]
                      clear hm1
                      clear q1 hl HOK HNX hv0
                      by_cases h1 : cc = 1
                      · have HCC1 := Lib.hid (show cc = 1 from h1)
                        clear h1 hcc
                        go_wp2_with (first
                          | go_big_skip
                          | (refine wpList_load_at 40 (cs := evC ⟨who, 6, (cN : Int), v, false⟩) rfl rfl rfl rfl (fun j hj => HC.out [] _ M.own.keep (by simp) j hj) Try.underlying37 rfl (by kernel_rfl) ?_; simp only [Act.put, List.setIfInBounds_toArray, List.set_cons_zero, List.set_cons_succ])
                          | (refine om_alloc 11 (evC ⟨0, 0, 0, 0, false⟩) M rfl rfl rfl (fun _ => by kernel_rfl) ?_; clear M; intro W b11 M; simp only [Act.put, List.setIfInBounds_toArray, List.set_cons_zero, List.set_cons_succ])
                          | (refine om_store_row 0 (.tmp 11) (.tmp 40) (cs' := evC ⟨who, 6, (cN : Int), v, false⟩) M rfl rfl rfl rfl rfl rfl (by kernel_rfl) (by rfl) (evC_cell _) ?_; clear M c2 c5 c6; intro W M; simp only [List.set_cons_zero] at M; have c11 : ∀ i, W.cell? ⟨b11, i, none⟩ = #[Value.int .i64 who, .int .i64 6, .int .i64 (cN : Int), .int .i64 v, .bool false][i]? := (M.get 0 rfl).cell; have c5 : ∀ i, W.cell? ⟨r5, i, none⟩ = #[Value.int .i64 fin, .int .i64 fault, .slice (some ad) n c, .int .i64 (rn : Nat), cells][i]? := (M.get 1 rfl).cell; have c2 : ∀ i, W.cell? ⟨b2, i, none⟩ = #[Value.slice A S.np c0, .slice (some rd) S.nr d, .int .i64 (gr : Int), .int .i64 (lk : Int), .int .i64 (ce : Int)][i]? := (HB2.out.keeps M.own.keep (by simp)).cell; have c6 : W.cell? (rd.add cN) = some (.int .i64 (S.rm cN)) := HRM.out _ M.own.keep; have HQ := Lib.hid (M.hr 0 Nat.zero_lt_one); have cq : W.cell? ⟨g, off, none⟩ = some (.int .i64 v) := HRow.head (show HRow _ W (.slice (some ⟨g, off, none⟩) (l.length + 1) cc) (v :: l) from by have h := HQ.out; simp only [HV0.out, HH0.out] at h; rw [HM1.out] at h; exact h)))
                        have c11 : ∀ (p : Later W) i, p.1.cell? ⟨b11, i, none⟩ = #[Value.int .i64 who, .int .i64 6, .int .i64 (cN : Int), .int .i64 v, .bool false][i]? := Later.cell (M.get 0 rfl)
                        have cq' : ∀ (p : Later W), p.1.cell? ⟨g, off, none⟩ = some (.int .i64 v) := fun p => (p.2.cellAt (World.block_lt_of_cell? _ _ cq) (by simp)).trans cq
                        clear cq
                        have ev1 : (v != v) = false := by simp
                        refine wp_quiet_later (by kernel_rfl) (by kernel_rfl) ?_
                        repeat (first
                          | go_big_quiet_skip
                          | go_big_quiet_step (fail))
                        refine wpQuiet_nil ?_
                        intro _ hw
                        obtain ⟨p', rfl⟩ := hw
                        replace M := M.keeps p'.2
                        clear c11 cq' ev1 c2 c5 c6
                        generalize p'.1 = W2 at M ⊢
                        have g9 := HCC1.out
                        go_wp2_with (first | go_big_skip)
                        go_roundw
                        case measure => (simp [intOf] <;> omega)
                        case rel =>
                          exact ⟨k + 1, updN hv 0 (.slice (some ⟨g, off, none⟩) l.length 0), updN held 0 l, cl, by omega, by go_num, (by rw [updN_same, HM1.out]; rfl), rfl, fun _ => HN.out, (M.pop Nat.zero_lt_one (HRow.pop_sh_6a HCC1.out (by have h := M.hr 0 Nat.zero_lt_one; simp only [HV0.out, HH0.out] at h; rw [HM1.out] at h; exact h)) (by show _ = (hv 0).ownBlock; rw [HV0.out]; rfl)).drop_ 1⟩
                      · have HCC1 := Lib.hid (show 1 < cc from by omega)
                        clear h1 hcc
                        go_wp2_with (first
                          | go_big_skip
                          | (refine wpList_load_at 40 (cs := evC ⟨who, 6, (cN : Int), v, false⟩) rfl rfl rfl rfl (fun j hj => HC.out [] _ M.own.keep (by simp) j hj) Try.underlying37 rfl (by kernel_rfl) ?_; simp only [Act.put, List.setIfInBounds_toArray, List.set_cons_zero, List.set_cons_succ])
                          | (refine om_alloc 11 (evC ⟨0, 0, 0, 0, false⟩) M rfl rfl rfl (fun _ => by kernel_rfl) ?_; clear M; intro W b11 M; simp only [Act.put, List.setIfInBounds_toArray, List.set_cons_zero, List.set_cons_succ])
                          | (refine om_store_row 0 (.tmp 11) (.tmp 40) (cs' := evC ⟨who, 6, (cN : Int), v, false⟩) M rfl rfl rfl rfl rfl rfl (by kernel_rfl) (by rfl) (evC_cell _) ?_; clear M c2 c5 c6; intro W M; simp only [List.set_cons_zero] at M; have c11 : ∀ i, W.cell? ⟨b11, i, none⟩ = #[Value.int .i64 who, .int .i64 6, .int .i64 (cN : Int), .int .i64 v, .bool false][i]? := (M.get 0 rfl).cell; have c5 : ∀ i, W.cell? ⟨r5, i, none⟩ = #[Value.int .i64 fin, .int .i64 fault, .slice (some ad) n c, .int .i64 (rn : Nat), cells][i]? := (M.get 1 rfl).cell; have c2 : ∀ i, W.cell? ⟨b2, i, none⟩ = #[Value.slice A S.np c0, .slice (some rd) S.nr d, .int .i64 (gr : Int), .int .i64 (lk : Int), .int .i64 (ce : Int)][i]? := (HB2.out.keeps M.own.keep (by simp)).cell; have c6 : W.cell? (rd.add cN) = some (.int .i64 (S.rm cN)) := HRM.out _ M.own.keep; have HQ := Lib.hid (M.hr 0 Nat.zero_lt_one); have cq : W.cell? ⟨g, off, none⟩ = some (.int .i64 v) := HRow.head (show HRow _ W (.slice (some ⟨g, off, none⟩) (l.length + 1) cc) (v :: l) from by have h := HQ.out; simp only [HV0.out, HH0.out] at h; rw [HM1.out] at h; exact h)))
                        have c11 : ∀ (p : Later W) i, p.1.cell? ⟨b11, i, none⟩ = #[Value.int .i64 who, .int .i64 6, .int .i64 (cN : Int), .int .i64 v, .bool false][i]? := Later.cell (M.get 0 rfl)
                        have cq' : ∀ (p : Later W), p.1.cell? ⟨g, off, none⟩ = some (.int .i64 v) := fun p => (p.2.cellAt (World.block_lt_of_cell? _ _ cq) (by simp)).trans cq
                        clear cq
                        have ev1 : (v != v) = false := by simp
                        refine wp_quiet_later (by kernel_rfl) (by kernel_rfl) ?_
                        repeat (first
                          | go_big_quiet_skip
                          | go_big_quiet_step (fail))
                        refine wpQuiet_nil ?_
                        intro _ hw
                        obtain ⟨p', rfl⟩ := hw
                        replace M := M.keeps p'.2
                        clear c11 cq' ev1 c2 c5 c6
                        generalize p'.1 = W2 at M ⊢
                        have g9 := HCC1.out
                        go_wp2_with (first | go_big_skip)
                        go_roundw
                        case measure => (simp [intOf] <;> omega)
                        case rel =>
                          exact ⟨k + 1, updN hv 0 (.slice (some ⟨g, off + 1, none⟩) l.length (cc - 1)), updN held 0 l, cl, by omega, by go_num, (by rw [updN_same, HM1.out]; rfl), rfl, fun _ => HN.out, (M.pop Nat.zero_lt_one (HRow.pop_sh_6b HCC1.out (by have h := M.hr 0 Nat.zero_lt_one; simp only [HV0.out, HH0.out] at h; rw [HM1.out] at h; exact h)) (by show _ = (hv 0).ownBlock; rw [HV0.out]; rfl)).drop_ 1⟩
                  · have HN := Lib.hid (show csN cN (ev.take (k + 1)) = ⟨held 0, cl⟩ by rw [HNX.out]; simp [csNx, o5, o6, o7])
                    have e5 : (op == 5) = false := by simpa using o5
                    have e6 : (op == 6) = false := by simpa using o6
                    have e7 : (op == 7) = false := by simpa using o7
                    clear o5 o6 o7 HOK HNX
                    go_wp2_with (first
                      | go_big_skip
                      | (refine wpList_load_at 40 (cs := evC ⟨who, op, (cN : Int), v, sh⟩) rfl rfl rfl rfl (fun j hj => HC.out [] _ M.own.keep (by simp) j hj) Try.underlying37 rfl (by kernel_rfl) ?_; simp only [Act.put, List.setIfInBounds_toArray, List.set_cons_zero, List.set_cons_succ])
                      | (refine om_alloc 11 (evC ⟨0, 0, 0, 0, false⟩) M rfl rfl rfl (fun _ => by kernel_rfl) ?_; clear M; intro W b11 M; simp only [Act.put, List.setIfInBounds_toArray, List.set_cons_zero, List.set_cons_succ])
                      | (refine om_store_row 0 (.tmp 11) (.tmp 40) (cs' := evC ⟨who, op, (cN : Int), v, sh⟩) M rfl rfl rfl rfl rfl rfl (by kernel_rfl) (by rfl) (evC_cell _) ?_; clear M c2 c5 c6; intro W M; simp only [List.set_cons_zero] at M; have c11 : ∀ i, W.cell? ⟨b11, i, none⟩ = #[Value.int .i64 who, .int .i64 op, .int .i64 (cN : Int), .int .i64 v, .bool sh][i]? := (M.get 0 rfl).cell; have c5 : ∀ i, W.cell? ⟨r5, i, none⟩ = #[Value.int .i64 fin, .int .i64 fault, .slice (some ad) n c, .int .i64 (rn : Nat), cells][i]? := (M.get 1 rfl).cell; have c2 : ∀ i, W.cell? ⟨b2, i, none⟩ = #[Value.slice A S.np c0, .slice (some rd) S.nr d, .int .i64 (gr : Int), .int .i64 (lk : Int), .int .i64 (ce : Int)][i]? := (HB2.out.keeps M.own.keep (by simp)).cell; have c6 : W.cell? (rd.add cN) = some (.int .i64 (S.rm cN)) := HRM.out _ M.own.keep))
                    go_roundw
                    case measure => (simp [intOf] <;> omega)
                    case rel =>
                      exact ⟨k + 1, hv, held, cl, by omega, by go_num, rfl, rfl, fun _ => HN.out, M.drop_ 1⟩
            · have ec : (a != (cN : Int)) = true := by simpa using ha
              have HN := Lib.hid (show csN cN (ev.take (k + 1)) = ⟨held 0, cl⟩ by rw [HNX.out]; simp [csNx, ha])
              clear ha HOK HNX
              go_wp2_with (first
                | go_big_skip
                | (refine wpList_load_at 40 (cs := evC ⟨who, op, a, v, sh⟩) rfl rfl rfl rfl (fun j hj => HC.out [] _ M.own.keep (by simp) j hj) Try.underlying37 rfl (by kernel_rfl) ?_; simp only [Act.put, List.setIfInBounds_toArray, List.set_cons_zero, List.set_cons_succ])
                | (refine om_alloc 11 (evC ⟨0, 0, 0, 0, false⟩) M rfl rfl rfl (fun _ => by kernel_rfl) ?_; clear M; intro W b11 M; simp only [Act.put, List.setIfInBounds_toArray, List.set_cons_zero, List.set_cons_succ])
                | (refine om_store_row 0 (.tmp 11) (.tmp 40) (cs' := evC ⟨who, op, a, v, sh⟩) M rfl rfl rfl rfl rfl rfl (by kernel_rfl) (by rfl) (evC_cell _) ?_; clear M c2 c5 c6; intro W M; simp only [List.set_cons_zero] at M; have c11 : ∀ i, W.cell? ⟨b11, i, none⟩ = #[Value.int .i64 who, .int .i64 op, .int .i64 a, .int .i64 v, .bool sh][i]? := (M.get 0 rfl).cell; have c5 : ∀ i, W.cell? ⟨r5, i, none⟩ = #[Value.int .i64 fin, .int .i64 fault, .slice (some ad) n c, .int .i64 (rn : Nat), cells][i]? := (M.get 1 rfl).cell; have c2 : ∀ i, W.cell? ⟨b2, i, none⟩ = #[Value.slice A S.np c0, .slice (some rd) S.nr d, .int .i64 (gr : Int), .int .i64 (lk : Int), .int .i64 (ce : Int)][i]? := (HB2.out.keeps M.own.keep (by simp)).cell; have c6 : W.cell? (rd.add cN) = some (.int .i64 (S.rm cN)) := HRM.out _ M.own.keep))
              go_roundw
              case measure => (simp [intOf] <;> omega)
              case rel =>
                exact ⟨k + 1, hv, held, cl, by omega, by go_num, rfl, rfl, fun _ => HN.out, M.drop_ 1⟩
          · obtain rfl : k = n := by omega
            go_wp2
            go_roundw
            case rel => exact ⟨cN + 1, by omega, by go_num, M.own⟩
            case measure => (simp [intOf] <;> omega)
      · obtain rfl : cN = S.nr := by omega
        go_wp2
        go_ret
        exact ⟨rfl, HO.out.keep.trans O.keep (by simp)⟩
  | true =>
    have HB := Lib.hid hb
    go_enter Try.func6, Try.ntmps6
    go_wp2_with (first
      | (refine own_box 2 (#[Value.slice A S.np c0, .slice R S.nr d, .int .i64 (gr : Int), .int .i64 (lk : Int), .int .i64 (ce : Int)]) O rfl rfl rfl rfl ?_; clear O; intro W b2 O; simp only [Act.put, List.setIfInBounds_toArray, List.set_cons_zero, List.set_cons_succ])
      | (refine own_load 15 0 O rfl rfl rfl rfl rfl Try.underlying27 rfl (by kernel_rfl) ?_; simp only [Act.put, List.setIfInBounds_toArray, List.set_cons_zero, List.set_cons_succ])
      | (refine own_load 19 0 O rfl rfl rfl rfl rfl Try.underlying27 rfl (by kernel_rfl) ?_; simp only [Act.put, List.setIfInBounds_toArray, List.set_cons_zero, List.set_cons_succ])
      | (go_at_call 24; refine awake_any.mono ?_; rintro e W ⟨rfl, K⟩; replace O := O.keeps K; clear K)
      | (go_at_call 23; refine (HR.out _ O.keep).mono ?_; rintro e W ⟨rfl, K⟩; replace O := O.keeps K; clear K)
      | (go_at_call 25; refine (HP.out _ O.keep).mono ?_; rintro e W ⟨v0, rfl, hRV, K⟩; obtain ⟨B, c, cells, mce, rfl, hE, q1, q2, hm, hI⟩ := hRV; have h1c : cells.oneCell' = true := (by obtain ⟨A', c', e', _⟩ := hI; rw [e']; rfl); have HE := Lib.hid (And.intro h1c hE); replace O := O.keeps K; have HO := Lib.hid O; have HB2 := Lib.hid (O.get 0 rfl); clear O; have O := Own.start W []; clear K q1 q2 hm hI hE h1c)
      | (refine own_alloc 5 (#[Value.int .i64 0, .int .i64 0, .slice none 0 0, .int .i64 0, .slice none 0 0]) O rfl rfl rfl (fun _ => by kernel_rfl) ?_; clear O; intro W r5 O; simp only [Act.put, List.setIfInBounds_toArray, List.set_cons_zero, List.set_cons_succ])
      | (refine own_store_row 0 (.tmp 5) (.tmp 22) (cs' := runC fin fault (.slice B P.ev.length c) P.n cells) O rfl rfl rfl rfl rfl rfl (by kernel_rfl) (by rfl) (runC_cell _ _ _ _ _ rfl HE.out.1) ?_; clear O; intro W O; simp only [List.set_cons_zero] at O)
      | go_big_skip)
    clear HP
    generalize hn : P.ev.length = n at *
    generalize P.n = rn at *
    generalize hev : P.ev = ev at *
    have HNL := Lib.hid hn
    clear hn
    go_loopw [7] (fun i wr => ∃ k : Nat, k ≤ S.nr ∧ i = .int .i64 k ∧ Own _ wr [] [(r5, 33, runC fin fault (.slice B n c) rn cells)]) (fun i _ => S.nr - (intOf i).toNat)
    case atStart => exact ⟨0, by omega, rfl, O⟩
    case round =>
      clear O
      obtain ⟨cN, hk, rfl, O⟩ := hrel
      have c2 : ∀ i, wr.cell? ⟨b2, i, none⟩ = #[Value.slice A S.np c0, .slice R S.nr d, .int .i64 (gr : Int), .int .i64 (lk : Int), .int .i64 (ce : Int)][i]? := (HB2.out.keeps O.keep (by simp)).cell
      have c5 : ∀ i, wr.cell? ⟨r5, i, none⟩ = #[Value.int .i64 fin, .int .i64 fault, .slice B n c, .int .i64 (rn : Nat), cells][i]? := (O.get 0 rfl).cell
      by_cases hlc : cN < S.nr
      · have g5 : ((cN : Int)) < S.nr := by omega
        have g6 : (0 : Int) ≤ cN := by omega
        obtain ⟨rd, rfl, hrb, hrc⟩ := HSN.out.rooms (by omega)
        have HRM := Lib.hid (show ∀ u, Keeps _ u [] → u.cell? (rd.add cN) = some (.int .i64 (S.rm cN)) from fun u K => ((HO.out.keep.trans K (by simp)).cellAt (by rw [add_block]; exact hrb) (by simp)).trans (hrc cN hlc))
        have HHK := Lib.hid (HCH.out cN)
        clear hrb hrc
        have M : OM _ wr [(r5, 33, runC fin fault (.slice B n c) rn cells)] ⟨.slice none 0 0, [], 1, fun _ => .slice none 0 0, fun _ => []⟩ := ⟨O, World.ownsRow_nil _ _ _ _, fun c _ => HRow.nil _ _, fun q _ h => (by cases h), fun c _ q _ h => (by cases h), fun c c' _ _ _ g h => (by cases h)⟩
        clear O
        go_wp2
        clear c2 c5
        go_loopw [36, 8, 9] (fun i h s wr => ∃ k hv held cl, k ≤ n ∧ i = .int .i64 (k : Nat) ∧ h = hv 0 ∧ s = .bool cl ∧ (k < n → csN cN (ev.take k) = ⟨held 0, cl⟩) ∧ OM _ wr [(r5, 33, runC fin fault (.slice B n c) rn cells)] ⟨.slice none 0 0, [], 1, hv, held⟩) (fun i _ _ _ => n - (intOf i).toNat)
        case atStart => exact ⟨0, fun _ => .slice none 0 0, fun _ => [], false, by omega, rfl, rfl, rfl, fun _ => rfl, M⟩
        case round =>
          clear M
          obtain ⟨k, hv, held, cl, hk2, rfl, rfl, rfl, hcs, M⟩ := hrel
          by_cases hlt : k < n
          · have g7 : ((k : Int)) < n := by omega
            have g10 : (0 : Int) ≤ k := by omega
            obtain ⟨ad, rfl, hc⟩ := EvsAt.row (u := wr) HE.out.2 hlt
            have HC := Lib.hid hc
            have hst := hcs hlt
            have HNX := Lib.hid (csN_next (c := cN) (l := ev) (k := k) (by rw [HNL.out]; exact hlt))
            have HHO := Lib.hid (HHK.out k (lE ev k) (lE_get (by rw [HNL.out]; exact hlt)))
            have HLN := Lib.hid (show (held 0).length ≤ 1000000 from by have := csN_len cN (ev.take k); rw [hst] at this; have h2 : (ev.take k).length ≤ k := List.length_take_le _ _; have : (held 0).length ≤ (ev.take k).length := this; omega)
            rw [hst] at HNX HHO
            clear hst hcs
            generalize lE ev k = e at *
            obtain ⟨who, op, a, v, sh⟩ := e
            clear hc
            have c5 : ∀ i, wr.cell? ⟨r5, i, none⟩ = #[Value.int .i64 fin, .int .i64 fault, .slice (some ad) n c, .int .i64 (rn : Nat), cells][i]? := (M.get 0 rfl).cell
            have c2 : ∀ i, wr.cell? ⟨b2, i, none⟩ = #[Value.slice A S.np c0, .slice (some rd) S.nr d, .int .i64 (gr : Int), .int .i64 (lk : Int), .int .i64 (ce : Int)][i]? := (HB2.out.keeps M.own.keep (by simp)).cell
            have c6 : wr.cell? (rd.add cN) = some (.int .i64 (S.rm cN)) := HRM.out _ M.own.keep
            by_cases hl : k + 1 = n
            · have g11 : (n : Int) - 1 = k := by omega
              have HL := Lib.hid hl
              clear hl HHO HNX
              go_wp2_with (first
                | go_big_skip
                | (refine wpList_load_at 40 (cs := evC ⟨who, op, a, v, sh⟩) rfl rfl rfl rfl (fun j hj => HC.out [] _ M.own.keep (by simp) j hj) Try.underlying37 rfl (by kernel_rfl) ?_; simp only [Act.put, List.setIfInBounds_toArray, List.set_cons_zero, List.set_cons_succ])
                | (refine om_alloc 11 (evC ⟨0, 0, 0, 0, false⟩) M rfl rfl rfl (fun _ => by kernel_rfl) ?_; clear M; intro W b11 M; simp only [Act.put, List.setIfInBounds_toArray, List.set_cons_zero, List.set_cons_succ])
                | (refine om_store_row 0 (.tmp 11) (.tmp 40) (cs' := evC ⟨who, op, a, v, sh⟩) M rfl rfl rfl rfl rfl rfl (by kernel_rfl) (by rfl) (evC_cell _) ?_; clear M c2 c5 c6; intro W M; simp only [List.set_cons_zero] at M; have c11 : ∀ i, W.cell? ⟨b11, i, none⟩ = #[Value.int .i64 who, .int .i64 op, .int .i64 a, .int .i64 v, .bool sh][i]? := (M.get 0 rfl).cell; have c5 : ∀ i, W.cell? ⟨r5, i, none⟩ = #[Value.int .i64 fin, .int .i64 fault, .slice (some ad) n c, .int .i64 (rn : Nat), cells][i]? := (M.get 1 rfl).cell; have c2 : ∀ i, W.cell? ⟨b2, i, none⟩ = #[Value.slice A S.np c0, .slice (some rd) S.nr d, .int .i64 (gr : Int), .int .i64 (lk : Int), .int .i64 (ce : Int)][i]? := (HB2.out.keeps M.own.keep (by simp)).cell; have c6 : W.cell? (rd.add cN) = some (.int .i64 (S.rm cN)) := HRM.out _ M.own.keep))
              go_roundw
              case measure => (simp [intOf] <;> omega)
              case rel =>
                exact ⟨k + 1, hv, held, cl, by omega, by go_num, rfl, rfl, fun h => absurd h (by have := HL.out; omega), M.drop_ 1⟩
            · have g11 : ¬ (k : Int) = n - 1 := by omega
              have HOK := Lib.hid (show csOk S cN ⟨held 0, cl⟩ ⟨who, op, a, v, sh⟩ = true from by rcases HHO.out with h | h; exact absurd (by have h2 := h.2; have h3 := HNL.out; omega) hl; exact h)
              clear HHO hl
              by_cases ha : a = (cN : Int)
              · subst ha
                have ec : ((cN : Int) != (cN : Int)) = false := by simp
                by_cases o5 : op = 5
                · subst o5
                  obtain ⟨q1, q2⟩ := csOk_5 HOK.out
                  have q1 : cl = false := q1
                  subst q1
                  have HN := Lib.hid (show csN cN (ev.take (k + 1)) = ⟨updN held 0 (held 0 ++ [v]) 0, false⟩ by rw [HNX.out, updN_same]; simp [csNx])
                  have HA := Lib.hid (show ((held 0).length : Int) + 1 ≤ S.rm cN from q2)
                  clear q2 HOK HNX
                  go_wp2_with (first
                    | go_big_skip
                    | (refine wpList_load_at 40 (cs := evC ⟨who, 5, (cN : Int), v, sh⟩) rfl rfl rfl rfl (fun j hj => HC.out [] _ M.own.keep (by simp) j hj) Try.underlying37 rfl (by kernel_rfl) ?_; simp only [Act.put, List.setIfInBounds_toArray, List.set_cons_zero, List.set_cons_succ])
                    | (refine om_alloc 11 (evC ⟨0, 0, 0, 0, false⟩) M rfl rfl rfl (fun _ => by kernel_rfl) ?_; clear M; intro W b11 M; simp only [Act.put, List.setIfInBounds_toArray, List.set_cons_zero, List.set_cons_succ])
                    | (refine om_store_row 0 (.tmp 11) (.tmp 40) (cs' := evC ⟨who, 5, (cN : Int), v, sh⟩) M rfl rfl rfl rfl rfl rfl (by kernel_rfl) (by rfl) (evC_cell _) ?_; clear M c2 c5 c6; intro W M; simp only [List.set_cons_zero] at M; have c11 : ∀ i, W.cell? ⟨b11, i, none⟩ = #[Value.int .i64 who, .int .i64 5, .int .i64 (cN : Int), .int .i64 v, .bool sh][i]? := (M.get 0 rfl).cell; have c5 : ∀ i, W.cell? ⟨r5, i, none⟩ = #[Value.int .i64 fin, .int .i64 fault, .slice (some ad) n c, .int .i64 (rn : Nat), cells][i]? := (M.get 1 rfl).cell; have c2 : ∀ i, W.cell? ⟨b2, i, none⟩ = #[Value.slice A S.np c0, .slice (some rd) S.nr d, .int .i64 (gr : Int), .int .i64 (lk : Int), .int .i64 (ce : Int)][i]? := (HB2.out.keeps M.own.keep (by simp)).cell; have c6 : W.cell? (rd.add cN) = some (.int .i64 (S.rm cN)) := HRM.out _ M.own.keep)
                    | (refine om_lit_int 66 v M rfl rfl rfl rfl ?_; clear M; intro W gl M; simp only [Act.put, List.setIfInBounds_toArray, List.set_cons_zero, List.set_cons_succ])
                    | (at_builtin; refine om_push v gl 0 (.tmp 63) (.tmp 66) M rfl rfl Nat.zero_lt_one rfl rfl HLN.out ?_; clear M c11 c5 c2 c6; intro A' m' c' W M; simp only [Act.put, List.setIfInBounds_toArray, List.set_cons_zero, List.set_cons_succ]; have c11 : ∀ i, W.cell? ⟨b11, i, none⟩ = #[Value.int .i64 who, .int .i64 5, .int .i64 (cN : Int), .int .i64 v, .bool sh][i]? := (M.get 0 rfl).cell; have c5 : ∀ i, W.cell? ⟨r5, i, none⟩ = #[Value.int .i64 fin, .int .i64 fault, .slice (some ad) n c, .int .i64 (rn : Nat), cells][i]? := (M.get 1 rfl).cell; have c2 : ∀ i, W.cell? ⟨b2, i, none⟩ = #[Value.slice A S.np c0, .slice (some rd) S.nr d, .int .i64 (gr : Int), .int .i64 (lk : Int), .int .i64 (ce : Int)][i]? := (HB2.out.keeps M.own.keep (by simp)).cell; have c6 : W.cell? (rd.add cN) = some (.int .i64 (S.rm cN)) := HRM.out _ M.own.keep; have g8 : ¬ S.rm cN < (m' : Int) := (by have h := HRow.len (show HRow _ W (.slice A' m' c') (held 0 ++ [v]) from M.hr 0 Nat.zero_lt_one); have := HA.out; rw [h, List.length_append]; simp; omega)))
                  go_roundw
                  case measure => (simp [intOf] <;> omega)
                  case rel =>
                    exact ⟨k + 1, updN hv 0 (.slice A' m' c'), updN held 0 (held 0 ++ [v]), false, by omega, by go_num, rfl, rfl, fun _ => HN.out, M.drop_ 1⟩
                · by_cases o7 : op = 7
                  · subst o7
                    have q1 : cl = false := csOk_7 HOK.out
                    subst q1
                    have HN := Lib.hid (show csN cN (ev.take (k + 1)) = ⟨held 0, true⟩ by rw [HNX.out]; simp [csNx])
                    clear HOK HNX
                    go_wp2_with (first
                      | go_big_skip
                      | (refine wpList_load_at 40 (cs := evC ⟨who, 7, (cN : Int), v, sh⟩) rfl rfl rfl rfl (fun j hj => HC.out [] _ M.own.keep (by simp) j hj) Try.underlying37 rfl (by kernel_rfl) ?_; simp only [Act.put, List.setIfInBounds_toArray, List.set_cons_zero, List.set_cons_succ])
                      | (refine om_alloc 11 (evC ⟨0, 0, 0, 0, false⟩) M rfl rfl rfl (fun _ => by kernel_rfl) ?_; clear M; intro W b11 M; simp only [Act.put, List.setIfInBounds_toArray, List.set_cons_zero, List.set_cons_succ])
                      | (refine om_store_row 0 (.tmp 11) (.tmp 40) (cs' := evC ⟨who, 7, (cN : Int), v, sh⟩) M rfl rfl rfl rfl rfl rfl (by kernel_rfl) (by rfl) (evC_cell _) ?_; clear M c2 c5 c6; intro W M; simp only [List.set_cons_zero] at M; have c11 : ∀ i, W.cell? ⟨b11, i, none⟩ = #[Value.int .i64 who, .int .i64 7, .int .i64 (cN : Int), .int .i64 v, .bool sh][i]? := (M.get 0 rfl).cell; have c5 : ∀ i, W.cell? ⟨r5, i, none⟩ = #[Value.int .i64 fin, .int .i64 fault, .slice (some ad) n c, .int .i64 (rn : Nat), cells][i]? := (M.get 1 rfl).cell; have c2 : ∀ i, W.cell? ⟨b2, i, none⟩ = #[Value.slice A S.np c0, .slice (some rd) S.nr d, .int .i64 (gr : Int), .int .i64 (lk : Int), .int .i64 (ce : Int)][i]? := (HB2.out.keeps M.own.keep (by simp)).cell; have c6 : W.cell? (rd.add cN) = some (.int .i64 (S.rm cN)) := HRM.out _ M.own.keep))
                    go_roundw
                    case measure => (simp [intOf] <;> omega)
                    case rel =>
                      exact ⟨k + 1, hv, held, true, by omega, by go_num, rfl, rfl, fun _ => HN.out, M.drop_ 1⟩
                  · by_cases o6 : op = 6
                    · subst o6
                      cases sh with
                      | true =>
                        obtain ⟨q1, q2⟩ := csOk_6t HOK.out
                        have q1 : cl = true := q1
                        subst q1
                        have q2 : held 0 = [] := q2
                        have HN := Lib.hid (show csN cN (ev.take (k + 1)) = ⟨held 0, true⟩ by rw [HNX.out]; simp [csNx])
                        obtain ⟨A0, c1, hv0⟩ : ∃ A0 c1, hv 0 = .slice A0 0 c1 := by
                          have h := M.hr 0 Nat.zero_lt_one
                          simp only [q2] at h
                          rcases h with ⟨h, _⟩ | ⟨g, off, cap, cur', h, _⟩
                          · exact ⟨_, _, h⟩
                          · exact ⟨_, _, h⟩
                        have HV0 := Lib.hid hv0
                        clear q2 HOK HNX
                        rw [hv0]
                        clear hv0
                        go_wp2_with (first
                          | go_big_skip
                          | (refine wpList_load_at 40 (cs := evC ⟨who, 6, (cN : Int), v, true⟩) rfl rfl rfl rfl (fun j hj => HC.out [] _ M.own.keep (by simp) j hj) Try.underlying37 rfl (by kernel_rfl) ?_; simp only [Act.put, List.setIfInBounds_toArray, List.set_cons_zero, List.set_cons_succ])
                          | (refine om_alloc 11 (evC ⟨0, 0, 0, 0, false⟩) M rfl rfl rfl (fun _ => by kernel_rfl) ?_; clear M; intro W b11 M; simp only [Act.put, List.setIfInBounds_toArray, List.set_cons_zero, List.set_cons_succ])
                          | (refine om_store_row 0 (.tmp 11) (.tmp 40) (cs' := evC ⟨who, 6, (cN : Int), v, true⟩) M rfl rfl rfl rfl rfl rfl (by kernel_rfl) (by rfl) (evC_cell _) ?_; clear M c2 c5 c6; intro W M; simp only [List.set_cons_zero] at M; have c11 : ∀ i, W.cell? ⟨b11, i, none⟩ = #[Value.int .i64 who, .int .i64 6, .int .i64 (cN : Int), .int .i64 v, .bool true][i]? := (M.get 0 rfl).cell; have c5 : ∀ i, W.cell? ⟨r5, i, none⟩ = #[Value.int .i64 fin, .int .i64 fault, .slice (some ad) n c, .int .i64 (rn : Nat), cells][i]? := (M.get 1 rfl).cell; have c2 : ∀ i, W.cell? ⟨b2, i, none⟩ = #[Value.slice A S.np c0, .slice (some rd) S.nr d, .int .i64 (gr : Int), .int .i64 (lk : Int), .int .i64 (ce : Int)][i]? := (HB2.out.keeps M.own.keep (by simp)).cell; have c6 : W.cell? (rd.add cN) = some (.int .i64 (S.rm cN)) := HRM.out _ M.own.keep))
                        go_roundw
                        case measure => (simp [intOf] <;> omega)
                        case rel =>
                          exact ⟨k + 1, hv, held, true, by omega, by go_num, HV0.out.symm, rfl, fun _ => HN.out, M.drop_ 1⟩
                      | false =>
                        have q1 : (held 0).head? = some v := csOk_6f HOK.out
                        obtain ⟨l, hl⟩ : ∃ l, held 0 = v :: l := by
                          cases hh : held 0 with
                          | nil => rw [hh] at q1; cases q1
                          | cons x l => rw [hh] at q1; simp at q1; subst q1; exact ⟨l, rfl⟩
                        have HN := Lib.hid (show csN cN (ev.take (k + 1)) = ⟨updN held 0 l 0, cl⟩ by rw [HNX.out, updN_same]; simp [csNx, hl])
                        obtain ⟨g, off, cc, hv0, hcc⟩ : ∃ g off cc, hv 0 = .slice (some ⟨g, off, none⟩) (l.length + 1) cc ∧ 1 ≤ cc := by
                          have h := M.hr 0 Nat.zero_lt_one
                          simp only [hl] at h
                          rcases h with ⟨_, h⟩ | ⟨g, off, cap, cur', h, _, _, h4, _⟩
                          · cases h
                          · exact ⟨g, off, cap, h, by simp at h4; omega⟩
                        obtain ⟨m1, hm1⟩ : ∃ m1, m1 = l.length + 1 := ⟨_, rfl⟩
                        have gl0 : (0 : Int) < (m1 : Nat) := by omega
                        have gl1 : ¬ ((m1 : Nat) : Int) = 0 := by omega
                        have gl2 : (((m1 : Nat) : Int) == 0) = false := by simp; omega
                        rw [← hm1] at hv0
                        have HV0 := Lib.hid hv0
                        have HH0 := Lib.hid hl
                        have HM1 := Lib.hid hm1
                        rw [hv0]
                        clear hm1
                        clear q1 hl HOK HNX hv0
                        by_cases h1 : cc = 1
                        · have HCC1 := Lib.hid (show cc = 1 from h1)
                          clear h1 hcc
                          go_wp2_with (first
                            | go_big_skip
                            | (refine wpList_load_at 40 (cs := evC ⟨who, 6, (cN : Int), v, false⟩) rfl rfl rfl rfl (fun j hj => HC.out [] _ M.own.keep (by simp) j hj) Try.underlying37 rfl (by kernel_rfl) ?_; simp only [Act.put, List.setIfInBounds_toArray, List.set_cons_zero, List.set_cons_succ])
                            | (refine om_alloc 11 (evC ⟨0, 0, 0, 0, false⟩) M rfl rfl rfl (fun _ => by kernel_rfl) ?_; clear M; intro W b11 M; simp only [Act.put, List.setIfInBounds_toArray, List.set_cons_zero, List.set_cons_succ])
                            | (refine om_store_row 0 (.tmp 11) (.tmp 40) (cs' := evC ⟨who, 6, (cN : Int), v, false⟩) M rfl rfl rfl rfl rfl rfl (by kernel_rfl) (by rfl) (evC_cell _) ?_; clear M c2 c5 c6; intro W M; simp only [List.set_cons_zero] at M; have c11 : ∀ i, W.cell? ⟨b11, i, none⟩ = #[Value.int .i64 who, .int .i64 6, .int .i64 (cN : Int), .int .i64 v, .bool false][i]? := (M.get 0 rfl).cell; have c5 : ∀ i, W.cell? ⟨r5, i, none⟩ = #[Value.int .i64 fin, .int .i64 fault, .slice (some ad) n c, .int .i64 (rn : Nat), cells][i]? := (M.get 1 rfl).cell; have c2 : ∀ i, W.cell? ⟨b2, i, none⟩ = #[Value.slice A S.np c0, .slice (some rd) S.nr d, .int .i64 (gr : Int), .int .i64 (lk : Int), .int .i64 (ce : Int)][i]? := (HB2.out.keeps M.own.keep (by simp)).cell; have c6 : W.cell? (rd.add cN) = some (.int .i64 (S.rm cN)) := HRM.out _ M.own.keep; have HQ := Lib.hid (M.hr 0 Nat.zero_lt_one); have cq : W.cell? ⟨g, off, none⟩ = some (.int .i64 v) := HRow.head (show HRow _ W (.slice (some ⟨g, off, none⟩) (l.length + 1) cc) (v :: l) from by have h := HQ.out; simp only [HV0.out, HH0.out] at h; rw [HM1.out] at h; exact h)))
                          have c11 : ∀ (p : Later W) i, p.1.cell? ⟨b11, i, none⟩ = #[Value.int .i64 who, .int .i64 6, .int .i64 (cN : Int), .int .i64 v, .bool false][i]? := Later.cell (M.get 0 rfl)
                          have cq' : ∀ (p : Later W), p.1.cell? ⟨g, off, none⟩ = some (.int .i64 v) := fun p => (p.2.cellAt (World.block_lt_of_cell? _ _ cq) (by simp)).trans cq
                          clear cq
                          have ev1 : (v != v) = false := by simp
                          refine wp_quiet_later (by kernel_rfl) (by kernel_rfl) ?_
                          repeat (first
                            | go_big_quiet_skip
                            | go_big_quiet_step (fail))
                          refine wpQuiet_nil ?_
                          intro _ hw
                          obtain ⟨p', rfl⟩ := hw
                          replace M := M.keeps p'.2
                          clear c11 cq' ev1 c2 c5 c6
                          generalize p'.1 = W2 at M ⊢
                          have g9 := HCC1.out
                          go_wp2_with (first | go_big_skip)
                          go_roundw
                          case measure => (simp [intOf] <;> omega)
                          case rel =>
                            exact ⟨k + 1, updN hv 0 (.slice (some ⟨g, off, none⟩) l.length 0), updN held 0 l, cl, by omega, by go_num, (by rw [updN_same, HM1.out]; rfl), rfl, fun _ => HN.out, (M.pop Nat.zero_lt_one (HRow.pop_sh_6a HCC1.out (by have h := M.hr 0 Nat.zero_lt_one; simp only [HV0.out, HH0.out] at h; rw [HM1.out] at h; exact h)) (by show _ = (hv 0).ownBlock; rw [HV0.out]; rfl)).drop_ 1⟩
                        · have HCC1 := Lib.hid (show 1 < cc from by omega)
                          clear h1 hcc
                          go_wp2_with (first
                            | go_big_skip
                            | (refine wpList_load_at 40 (cs := evC ⟨who, 6, (cN : Int), v, false⟩) rfl rfl rfl rfl (fun j hj => HC.out [] _ M.own.keep (by simp) j hj) Try.underlying37 rfl (by kernel_rfl) ?_; simp only [Act.put, List.setIfInBounds_toArray, List.set_cons_zero, List.set_cons_succ])
                            | (refine om_alloc 11 (evC ⟨0, 0, 0, 0, false⟩) M rfl rfl rfl (fun _ => by kernel_rfl) ?_; clear M; intro W b11 M; simp only [Act.put, List.setIfInBounds_toArray, List.set_cons_zero, List.set_cons_succ])
                            | (refine om_store_row 0 (.tmp 11) (.tmp 40) (cs' := evC ⟨who, 6, (cN : Int), v, false⟩) M rfl rfl rfl rfl rfl rfl (by kernel_rfl) (by rfl) (evC_cell _) ?_; clear M c2 c5 c6; intro W M; simp only [List.set_cons_zero] at M; have c11 : ∀ i, W.cell? ⟨b11, i, none⟩ = #[Value.int .i64 who, .int .i64 6, .int .i64 (cN : Int), .int .i64 v, .bool false][i]? := (M.get 0 rfl).cell; have c5 : ∀ i, W.cell? ⟨r5, i, none⟩ = #[Value.int .i64 fin, .int .i64 fault, .slice (some ad) n c, .int .i64 (rn : Nat), cells][i]? := (M.get 1 rfl).cell; have c2 : ∀ i, W.cell? ⟨b2, i, none⟩ = #[Value.slice A S.np c0, .slice (some rd) S.nr d, .int .i64 (gr : Int), .int .i64 (lk : Int), .int .i64 (ce : Int)][i]? := (HB2.out.keeps M.own.keep (by simp)).cell; have c6 : W.cell? (rd.add cN) = some (.int .i64 (S.rm cN)) := HRM.out _ M.own.keep; have HQ := Lib.hid (M.hr 0 Nat.zero_lt_one); have cq : W.cell? ⟨g, off, none⟩ = some (.int .i64 v) := HRow.head (show HRow _ W (.slice (some ⟨g, off, none⟩) (l.length + 1) cc) (v :: l) from by have h := HQ.out; simp only [HV0.out, HH0.out] at h; rw [HM1.out] at h; exact h)))
                          have c11 : ∀ (p : Later W) i, p.1.cell? ⟨b11, i, none⟩ = #[Value.int .i64 who, .int .i64 6, .int .i64 (cN : Int), .int .i64 v, .bool false][i]? := Later.cell (M.get 0 rfl)
                          have cq' : ∀ (p : Later W), p.1.cell? ⟨g, off, none⟩ = some (.int .i64 v) := fun p => (p.2.cellAt (World.block_lt_of_cell? _ _ cq) (by simp)).trans cq
                          clear cq
                          have ev1 : (v != v) = false := by simp
                          refine wp_quiet_later (by kernel_rfl) (by kernel_rfl) ?_
                          repeat (first
                            | go_big_quiet_skip
                            | go_big_quiet_step (fail))
                          refine wpQuiet_nil ?_
                          intro _ hw
                          obtain ⟨p', rfl⟩ := hw
                          replace M := M.keeps p'.2
                          clear c11 cq' ev1 c2 c5 c6
                          generalize p'.1 = W2 at M ⊢
                          have g9 := HCC1.out
                          go_wp2_with (first | go_big_skip)
                          go_roundw
                          case measure => (simp [intOf] <;> omega)
                          case rel =>
                            exact ⟨k + 1, updN hv 0 (.slice (some ⟨g, off + 1, none⟩) l.length (cc - 1)), updN held 0 l, cl, by omega, by go_num, (by rw [updN_same, HM1.out]; rfl), rfl, fun _ => HN.out, (M.pop Nat.zero_lt_one (HRow.pop_sh_6b HCC1.out (by have h := M.hr 0 Nat.zero_lt_one; simp only [HV0.out, HH0.out] at h; rw [HM1.out] at h; exact h)) (by show _ = (hv 0).ownBlock; rw [HV0.out]; rfl)).drop_ 1⟩
                    · have HN := Lib.hid (show csN cN (ev.take (k + 1)) = ⟨held 0, cl⟩ by rw [HNX.out]; simp [csNx, o5, o6, o7])
                      have e5 : (op == 5) = false := by simpa using o5
                      have e6 : (op == 6) = false := by simpa using o6
                      have e7 : (op == 7) = false := by simpa using o7
                      clear o5 o6 o7 HOK HNX
                      go_wp2_with (first
                        | go_big_skip
                        | (refine wpList_load_at 40 (cs := evC ⟨who, op, (cN : Int), v, sh⟩) rfl rfl rfl rfl (fun j hj => HC.out [] _ M.own.keep (by simp) j hj) Try.underlying37 rfl (by kernel_rfl) ?_; simp only [Act.put, List.setIfInBounds_toArray, List.set_cons_zero, List.set_cons_succ])
                        | (refine om_alloc 11 (evC ⟨0, 0, 0, 0, false⟩) M rfl rfl rfl (fun _ => by kernel_rfl) ?_; clear M; intro W b11 M; simp only [Act.put, List.setIfInBounds_toArray, List.set_cons_zero, List.set_cons_succ])
                        | (refine om_store_row 0 (.tmp 11) (.tmp 40) (cs' := evC ⟨who, op, (cN : Int), v, sh⟩) M rfl rfl rfl rfl rfl rfl (by kernel_rfl) (by rfl) (evC_cell _) ?_; clear M c2 c5 c6; intro W M; simp only [List.set_cons_zero] at M; have c11 : ∀ i, W.cell? ⟨b11, i, none⟩ = #[Value.int .i64 who, .int .i64 op, .int .i64 (cN : Int), .int .i64 v, .bool sh][i]? := (M.get 0 rfl).cell; have c5 : ∀ i, W.cell? ⟨r5, i, none⟩ = #[Value.int .i64 fin, .int .i64 fault, .slice (some ad) n c, .int .i64 (rn : Nat), cells][i]? := (M.get 1 rfl).cell; have c2 : ∀ i, W.cell? ⟨b2, i, none⟩ = #[Value.slice A S.np c0, .slice (some rd) S.nr d, .int .i64 (gr : Int), .int .i64 (lk : Int), .int .i64 (ce : Int)][i]? := (HB2.out.keeps M.own.keep (by simp)).cell; have c6 : W.cell? (rd.add cN) = some (.int .i64 (S.rm cN)) := HRM.out _ M.own.keep))
                      go_roundw
                      case measure => (simp [intOf] <;> omega)
                      case rel =>
                        exact ⟨k + 1, hv, held, cl, by omega, by go_num, rfl, rfl, fun _ => HN.out, M.drop_ 1⟩
              · have ec : (a != (cN : Int)) = true := by simpa using ha
                have HN := Lib.hid (show csN cN (ev.take (k + 1)) = ⟨held 0, cl⟩ by rw [HNX.out]; simp [csNx, ha])
                clear ha HOK HNX
                go_wp2_with (first
                  | go_big_skip
                  | (refine wpList_load_at 40 (cs := evC ⟨who, op, a, v, sh⟩) rfl rfl rfl rfl (fun j hj => HC.out [] _ M.own.keep (by simp) j hj) Try.underlying37 rfl (by kernel_rfl) ?_; simp only [Act.put, List.setIfInBounds_toArray, List.set_cons_zero, List.set_cons_succ])
                  | (refine om_alloc 11 (evC ⟨0, 0, 0, 0, false⟩) M rfl rfl rfl (fun _ => by kernel_rfl) ?_; clear M; intro W b11 M; simp only [Act.put, List.setIfInBounds_toArray, List.set_cons_zero, List.set_cons_succ])
                  | (refine om_store_row 0 (.tmp 11) (.tmp 40) (cs' := evC ⟨who, op, a, v, sh⟩) M rfl rfl rfl rfl rfl rfl (by kernel_rfl) (by rfl) (evC_cell _) ?_; clear M c2 c5 c6; intro W M; simp only [List.set_cons_zero] at M; have c11 : ∀ i, W.cell? ⟨b11, i, none⟩ = #[Value.int .i64 who, .int .i64 op, .int .i64 a, .int .i64 v, .bool sh][i]? := (M.get 0 rfl).cell; have c5 : ∀ i, W.cell? ⟨r5, i, none⟩ = #[Value.int .i64 fin, .int .i64 fault, .slice (some ad) n c, .int .i64 (rn : Nat), cells][i]? := (M.get 1 rfl).cell; have c2 : ∀ i, W.cell? ⟨b2, i, none⟩ = #[Value.slice A S.np c0, .slice (some rd) S.nr d, .int .i64 (gr : Int), .int .i64 (lk : Int), .int .i64 (ce : Int)][i]? := (HB2.out.keeps M.own.keep (by simp)).cell; have c6 : W.cell? (rd.add cN) = some (.int .i64 (S.rm cN)) := HRM.out _ M.own.keep))
                go_roundw
                case measure => (simp [intOf] <;> omega)
                case rel =>
                  exact ⟨k + 1, hv, held, cl, by omega, by go_num, rfl, rfl, fun _ => HN.out, M.drop_ 1⟩
          · obtain rfl : k = n := by omega
            go_wp2
            go_roundw
            case rel => exact ⟨cN + 1, by omega, by go_num, M.own⟩
            case measure => (simp [intOf] <;> omega)
      · obtain rfl : cN = S.nr := by omega
        go_wp2
        go_ret
        exact ⟨rfl, HO.out.keep.trans O.keep (by simp)⟩
end
end Go.Proofs.Ytakmcpadkanggaa

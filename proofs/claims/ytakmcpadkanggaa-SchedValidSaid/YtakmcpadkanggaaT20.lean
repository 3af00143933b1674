/-
  trace.Guards whole.
-/
import Derived.Test.YtakmcpadkanggaaT19
namespace Go.Proofs.Ytakmcpadkanggaa
open Go.RowKit Go.Maps Go.Deep

def guardN (E : Nat → Ev) (cell : Int) (n : Nat) : Nat → List Int
  | 0 => []
  | q + 1 => guardN E cell n q ++ (if goodR E cell (q : Int) n = true ∧ someR E cell n = true then [(q : Int)] else [])
theorem guardN_length (E : Nat → Ev) (cell : Int) (n : Nat) : ∀ m, (guardN E cell n m).length ≤ m
  | 0 => by simp [guardN]
  | m + 1 => by
    have := guardN_length E cell n m
    simp only [guardN, List.length_append]
    split <;> simp <;> omega
/-- What Guards answers: the locks, the error. -/
def guardR (S : Sys) (E : Nat → Ev) (n : Nat) (cell : Int) : List Int × Int :=
  if (thr S E n).2.2 = 0 then (if 0 ≤ cell ∧ cell < S.ce then (guardN E cell n S.lk.toNat, 0) else ([], 1)) else ([], (thr S E n).2.2)
theorem GInv.kept {w1 u u' : World} {E : Nat → Ev} {m po ga k : Nat} {cell : Int} (I : GInv w1 u E m cell po ga k) (K : Keeps u u' []) : GInv w1 u' E m cell po ga k :=
  ⟨I.keep.trans K (by simp), I.a.keeps K (by simp), I.o.keeps K (by simp)⟩
section
variable {w : World} {S : Sys} {A : Option Addr} {c : Nat} {R : Option Addr} {d n : Nat} {E : Nat → Ev} {B : Option Addr} {cb : Nat}
theorem asked_nil (h : (askedR S E n []).2 = 0) : (thr S E n).2.2 = 0 := by
  unfold askedR at h
  by_cases h0 : (thr S E n).2.2 = 0
  · exact h0
  · rw [if_neg h0] at h; exact absurd h h0
theorem asked_nil_bad (cell : Int) (h : ¬ (askedR S E n []).2 = 0) : guardR S E n cell = ([], (askedR S E n []).2) := by
  unfold askedR at h ⊢
  unfold guardR
  by_cases h0 : (thr S E n).2.2 = 0
  · rw [if_pos h0] at h; simp at h
  · rw [if_neg h0, if_neg h0]
theorem thr_free (hh : headB S = true) (h : ∀ j, j < n → okE S (stN E j) (E j) = true) : ∀ j, j < n → (E j).op = 9 → 0 ≤ (E j).a ∧ (E j).a < S.lk := fun j hj h9 => by
  have h1 := h j hj
  have h4 := ((headB_iff S).1 hh).2.2.2.2.1
  rw [shB_iff] at h4
  simp [okE, headE, h9, cnt] at h1
  omega
set_option maxRecDepth 100000 in
set_option maxHeartbeats 1000000 in
theorem guards_any (hS : SysIn w S A c R d) (hE : EvsAt w B n E) (hwf : ∀ i, i < n → (Lit.int .i64 (E i).a).wf = true) (cell : Int) : Calls Try.prog 35 #[.agg (sysV S A c R d), .slice B n cb, .int .i64 cell] w (HeldPost (guardR S E n cell) w) := by
  have O := Own.start w []
  have HA := Lib.hid (show ∀ u, Keeps w u [] → Calls Try.prog 62 #[.agg (sysV S A c R d), .slice B n cb, .slice none 0 0] u fun e w' => e = .returned (.tuple #[.int .i64 (askedR S E n []).1, .int .i64 (askedR S E n []).2]) ∧ Keeps u w' [] from fun u k => asked_any (cb := cb) (hS.kept k) (hE.kept k) hwf _ [] (IntL.nil _) (by simp))
  by_cases h : (askedR S E n []).2 = 0
  · have ht := asked_nil h
    obtain ⟨hv, hn, hok⟩ := thr_zero ht
    have hh := ((validB_iff S).1 hv).1
    obtain ⟨_, _, _, _, h4, h5⟩ := (headB_iff S).1 hh
    rw [shB_iff] at h4 h5
    obtain ⟨m, hm⟩ : ∃ m : Nat, S.lk = (m : Int) := ⟨S.lk.toNat, by omega⟩
    have HR := Lib.hid (show guardR S E n cell = if 0 ≤ cell ∧ cell < S.ce then (guardN E cell n m, 0) else ([], 1) by simp [guardR, ht, hm])
    have HW := Lib.hid (thr_who hok hn)
    have HFR := Lib.hid (thr_free hh hok)
    have HE := Lib.hid hE
    have HWF := Lib.hid hwf
    have HM := Lib.hid hm
    have b1 : m ≤ 64 := by omega
    have b2 : m ≤ 1000000 := by omega
    have HB := Lib.hid hn
    generalize hr : guardR S E n cell = r at HR ⊢
    clear hr ht hv hh h4 h5 hm hok hE hwf hS hn
    generalize askedR S E n [] = x at HA h
    obtain ⟨x0, x1⟩ := x
    simp only at h HA
    subst h
    by_cases hc0 : cell < 0
    · have HF := Lib.hid (show r = ([], 1) by rw [HR.out, if_neg]; omega)
      go_enter Try.func35, Try.ntmps35
      go_wp2_with (first
        | go_big_skip
        | (refine own_box 3 (sysV S A c R d) O rfl rfl rfl rfl ?_; clear O; intro W ps O; simp only [Act.put, List.setIfInBounds_toArray, List.set_cons_zero, List.set_cons_succ])
        | (refine own_box1 4 (.slice B n cb) O rfl rfl rfl rfl rfl ?_; clear O; intro W pl O; simp only [Act.put, List.setIfInBounds_toArray, List.set_cons_zero, List.set_cons_succ])
        | (refine own_box1 5 (.int .i64 cell) O rfl rfl rfl rfl rfl ?_; clear O; intro W pc O; simp only [Act.put, List.setIfInBounds_toArray, List.set_cons_zero, List.set_cons_succ]; have cs : ∀ i, W.cell? ⟨ps, i, none⟩ = #[Value.slice A S.np c, .slice R S.nr d, .int .i64 S.gr, .int .i64 S.lk, .int .i64 S.ce][i]? := (O.get 2 rfl).cell; have cl := (O.get 1 rfl).cell 0; have cc := (O.get 0 rfl).cell 0)
        | (refine own_load 17 2 O rfl rfl rfl rfl rfl Try.underlying27 rfl (by kernel_rfl) ?_; simp only [Act.put, List.setIfInBounds_toArray, List.set_cons_zero, List.set_cons_succ])
        | (go_at_call 62; refine (HA.out _ O.keep).mono ?_; rintro e W ⟨rfl, K⟩; replace O := O.keeps K; clear K; clear cs cl cc; have cs : ∀ i, W.cell? ⟨ps, i, none⟩ = #[Value.slice A S.np c, .slice R S.nr d, .int .i64 S.gr, .int .i64 S.lk, .int .i64 S.ce][i]? := (O.get 2 rfl).cell; have cl := (O.get 1 rfl).cell 0; have cc := (O.get 0 rfl).cell 0))
      go_returns
      exact ⟨⟨_, by rw [HF.out]; rfl, by rw [HF.out]; exact IntL.nil _⟩, O.keep⟩
    by_cases hc1 : S.ce ≤ cell
    · have HF := Lib.hid (show r = ([], 1) by rw [HR.out, if_neg]; omega)
      go_enter Try.func35, Try.ntmps35
      go_wp2_with (first
        | go_big_skip
        | (refine own_box 3 (sysV S A c R d) O rfl rfl rfl rfl ?_; clear O; intro W ps O; simp only [Act.put, List.setIfInBounds_toArray, List.set_cons_zero, List.set_cons_succ])
        | (refine own_box1 4 (.slice B n cb) O rfl rfl rfl rfl rfl ?_; clear O; intro W pl O; simp only [Act.put, List.setIfInBounds_toArray, List.set_cons_zero, List.set_cons_succ])
        | (refine own_box1 5 (.int .i64 cell) O rfl rfl rfl rfl rfl ?_; clear O; intro W pc O; simp only [Act.put, List.setIfInBounds_toArray, List.set_cons_zero, List.set_cons_succ]; have cs : ∀ i, W.cell? ⟨ps, i, none⟩ = #[Value.slice A S.np c, .slice R S.nr d, .int .i64 S.gr, .int .i64 S.lk, .int .i64 S.ce][i]? := (O.get 2 rfl).cell; have cl := (O.get 1 rfl).cell 0; have cc := (O.get 0 rfl).cell 0)
        | (refine own_load 17 2 O rfl rfl rfl rfl rfl Try.underlying27 rfl (by kernel_rfl) ?_; simp only [Act.put, List.setIfInBounds_toArray, List.set_cons_zero, List.set_cons_succ])
        | (go_at_call 62; refine (HA.out _ O.keep).mono ?_; rintro e W ⟨rfl, K⟩; replace O := O.keeps K; clear K; clear cs cl cc; have cs : ∀ i, W.cell? ⟨ps, i, none⟩ = #[Value.slice A S.np c, .slice R S.nr d, .int .i64 S.gr, .int .i64 S.lk, .int .i64 S.ce][i]? := (O.get 2 rfl).cell; have cl := (O.get 1 rfl).cell 0; have cc := (O.get 0 rfl).cell 0))
      go_returns
      exact ⟨⟨_, by rw [HF.out]; rfl, by rw [HF.out]; exact IntL.nil _⟩, O.keep⟩
    have HF := Lib.hid (show r = (guardN E cell n m, 0) by rw [HR.out, if_pos]; omega)
    go_enter Try.func35, Try.ntmps35
    go_wp2_with (first
      | go_big_skip
      | (refine own_box 3 (sysV S A c R d) O rfl rfl rfl rfl ?_; clear O; intro W ps O; simp only [Act.put, List.setIfInBounds_toArray, List.set_cons_zero, List.set_cons_succ])
      | (refine own_box1 4 (.slice B n cb) O rfl rfl rfl rfl rfl ?_; clear O; intro W pl O; simp only [Act.put, List.setIfInBounds_toArray, List.set_cons_zero, List.set_cons_succ])
      | (refine own_box1 5 (.int .i64 cell) O rfl rfl rfl rfl rfl ?_; clear O; intro W pc O; simp only [Act.put, List.setIfInBounds_toArray, List.set_cons_zero, List.set_cons_succ]; have cs : ∀ i, W.cell? ⟨ps, i, none⟩ = #[Value.slice A S.np c, .slice R S.nr d, .int .i64 S.gr, .int .i64 S.lk, .int .i64 S.ce][i]? := (O.get 2 rfl).cell; have cl := (O.get 1 rfl).cell 0; have cc := (O.get 0 rfl).cell 0)
      | (refine own_load 17 2 O rfl rfl rfl rfl rfl Try.underlying27 rfl (by kernel_rfl) ?_; simp only [Act.put, List.setIfInBounds_toArray, List.set_cons_zero, List.set_cons_succ])
      | (go_at_call 62; refine (HA.out _ O.keep).mono ?_; rintro e W ⟨rfl, K⟩; replace O := O.keeps K; clear K; clear cs cl cc; have cs : ∀ i, W.cell? ⟨ps, i, none⟩ = #[Value.slice A S.np c, .slice R S.nr d, .int .i64 S.gr, .int .i64 S.lk, .int .i64 S.ce][i]? := (O.get 2 rfl).cell; have cl := (O.get 1 rfl).cell 0; have cc := (O.get 0 rfl).cell 0)
      | (refine own_makeB 35 m O rfl rfl rfl (by show Value.int .i64 S.lk = _; rw [HM.out]) b2 ?_; clear O; intro W ga O; simp only [Act.put, List.setIfInBounds_toArray, List.set_cons_zero, List.set_cons_succ]; clear cs cl cc; have cs : ∀ i, W.cell? ⟨ps, i, none⟩ = #[Value.slice A S.np c, .slice R S.nr d, .int .i64 S.gr, .int .i64 S.lk, .int .i64 S.ce][i]? := (O.get 3 rfl).cell; have cl := (O.get 2 rfl).cell 0; have cc := (O.get 1 rfl).cell 0)
      | (refine own_alloc1 10 (.slice none 0 0) O rfl rfl rfl (fun _ => by kernel_rfl) rfl ?_; clear O; intro W pg O; simp only [Act.put, List.setIfInBounds_toArray, List.set_cons_zero, List.set_cons_succ]; clear cs cl cc; have cs : ∀ i, W.cell? ⟨ps, i, none⟩ = #[Value.slice A S.np c, .slice R S.nr d, .int .i64 S.gr, .int .i64 S.lk, .int .i64 S.ce][i]? := (O.get 4 rfl).cell; have cl := (O.get 3 rfl).cell 0; have cc := (O.get 2 rfl).cell 0)
      | (refine at_store (.tmp 10) (.tmp 35) rfl ?_; refine own_store 0 0 (.slice (some ⟨ga, 0, none⟩) m m) (.tmp 10) (.tmp 35) O rfl rfl rfl rfl rfl rfl (by show 0 < 1; omega) rfl rfl (by kernel_rfl) rfl ?_; clear O; intro W O; simp only [List.set_cons_zero] at O; clear cs cl cc; have cs : ∀ i, W.cell? ⟨ps, i, none⟩ = #[Value.slice A S.np c, .slice R S.nr d, .int .i64 S.gr, .int .i64 S.lk, .int .i64 S.ce][i]? := (O.get 4 rfl).cell; have cl := (O.get 3 rfl).cell 0; have cc := (O.get 2 rfl).cell 0; have cg := (O.get 0 rfl).cell 0))
    clear cs cl cc cg
    go_loopw [38] (fun i wr => ∃ j : Nat, j ≤ m ∧ i = .int .i64 j ∧ Own w wr [] [(pg, 41, #[.slice (some ⟨ga, 0, none⟩) m m]), (ga, 4, arrB m (mixG (fun _ => true) (fun _ => false) j)), (pc, 3, #[.int .i64 cell]), (pl, 31, #[.slice B n cb]), (ps, 27, sysV S A c R d)]) (fun i _ => m - (intOf i).toNat)
    case atStart => exact ⟨0, by omega, rfl, O.put 1 rfl (mixG_zero _ _ _).symm⟩
    case round =>
      obtain ⟨j, hj, rfl, O⟩ := hrel
      have cg := (O.get 0 rfl).cell 0
      by_cases hlt : j < m
      · have g2 : ((j : Int)) < m := by omega
        have g3 : (0 : Int) ≤ j := by omega
        have ak := add_zero_ ga j
        go_wp2_with (first
          | (refine own_store 1 j (.bool true) (.tmp 43) (.const (.bool true)) O rfl rfl rfl rfl rfl rfl (by simp only [arrB_size]; omega) rfl rfl (by kernel_rfl) (arrB_set _ _ _ _) ?_; clear O; intro W O; simp only [List.set_cons_zero, List.set_cons_succ] at O))
        clear cg ak
        go_roundw
        case rel => exact ⟨j + 1, by omega, by go_num, O.put 1 rfl (by rw [← mixG_step])⟩
        case measure => (simp [intOf] <;> omega)
      · obtain rfl : j = m := by omega
        replace O := O.put 1 rfl (mixG_all _ _ _)
        simp only [List.set_cons_zero, List.set_cons_succ] at O
        have cl := (O.get 3 rfl).cell 0
        go_wp2_with (first
          | (refine own_alloc1 12 (.bool false) O rfl rfl rfl (fun _ => by kernel_rfl) rfl ?_; clear O; intro W po O; simp only [Act.put, List.setIfInBounds_toArray, List.set_cons_zero, List.set_cons_succ]; clear cl cg; have cl := (O.get 4 rfl).cell 0)
          | (refine at_store (.tmp 12) (.const (.bool false)) rfl ?_; refine own_store 0 0 (.bool false) (.tmp 12) (.const (.bool false)) O rfl rfl rfl rfl rfl rfl (by show 0 < 1; omega) rfl rfl (by kernel_rfl) rfl ?_; clear O; intro W O; simp only [List.set_cons_zero] at O; clear cl; have cl := (O.get 4 rfl).cell 0))
        have HH := Lib.hid (show GuardAt W E B n cb j cell pl pg pc po ga from ⟨O.get 4 rfl, O.get 1 rfl, O.get 3 rfl, O.get 0 rfl, O.get 2 rfl, O.apart (i := 2) (j := 0) rfl rfl (by decide), HE.out.kept O.keep, fun hn0 ad hB => by
          have hlt : ∀ (x : Nat) (t : TypeId) (cs : Array Value), (x, t, cs) ∈ [(po, 4, #[Value.bool false]), (pg, 41, #[.slice (some ⟨ga, 0, none⟩) j j]), (ga, 4, arrB j fun _ => true), (pc, 3, #[.int .i64 cell]), (pl, 31, #[.slice B n cb]), (ps, 27, sysV S A c R d)] → w.heap.size ≤ x := fun x t cs hx => by
            rcases Nat.lt_or_ge x w.heap.size with h | h
            · exact absurd (O.new _ hx h) (by simp)
            · exact h
          have h1 := hlt po 4 #[Value.bool false] (by simp)
          have h2 := hlt ga 4 (arrB j fun _ => true) (by simp)
          obtain ⟨ad', e, hb, _⟩ := HE.out hn0
          rw [hB] at e
          cases e
          exact ⟨by omega, by omega⟩, b1, HB.out, HW.out, fun q hq h9 => by have := HFR.out q hq h9; have := HM.out; omega, HWF.out⟩)
        have HO := Lib.hid O
        clear cl O
        refine (holder_67 (w := W) (B := B) (cb := cb) (E := E) (fun q u => GInv W u E j cell po ga q) n _ _ _ _ ?_ HB.out HWF.out HW.out ?_ ?_ ?_ ?_).mono ?_
        · intro q u I
          have h1 := HH.out.fe
          intro hn0
          obtain ⟨ad, e, hb, hc⟩ := h1 hn0
          exact ⟨ad, e, by have := I.keep.size; omega, fun i q hi hq => by rw [I.keep.cellAt (by rw [add_block]; exact hb) (by rw [add_block]; simpa using ⟨(HH.out.off hn0 ad e).2, (HH.out.off hn0 ad e).1⟩)]; exact hc i q hi hq⟩
        · exact ⟨Keeps.refl _ _, HH.out.fa, HH.out.fo⟩
        · intro q u u' I K
          exact I.kept K
        · intro q u u' b mm f hz I M K
          refine ⟨I.keep.trans K (fun x hx hlt => ?_), I.a.keeps K (by simpa using M.not_blk I.a), I.o.keeps K (by simpa using M.not_blk I.o)⟩
          obtain rfl : x = b := by simpa using hx
          omega
        · intro q u b hq I M
          exact guard1_any HH.out hq I M
        · rintro e u ⟨rfl, J⟩
          have npg : pg ≠ ga ∧ pg ≠ po := ⟨HH.out.fg.ne HH.out.fa (by decide), HH.out.fg.ne HH.out.fo (by decide)⟩
          have HG := Lib.hid (HH.out.fg.keeps J.keep (by simpa using npg))
          have HJ := Lib.hid J
          have HKu := Lib.hid (show Keeps w u [] from HO.out.keep.trans J.keep (fun x hx hlt => by
            have hx' : x = ga ∨ x = po := by simpa using hx
            rcases hx' with rfl | rfl
            · exact HO.out.new _ (List.mem_of_getElem? (show _[2]? = some (x, 4, arrB j fun _ => true) from rfl)) hlt
            · exact HO.out.new _ (List.mem_of_getElem? (show _[0]? = some (x, 4, #[Value.bool false]) from rfl)) hlt))
          have cg := HG.out.cell 0
          have O := Own.start u []
          clear J npg
          go_wp2
          clear cg
          go_loopw [50, 13] (fun i v wr => ∃ q : Nat, q ≤ j ∧ i = .int .i64 q ∧ Own u wr [] [] ∧ Mint u.heap.size wr v (guardN E cell n q)) (fun i _ _ => j - (intOf i).toNat)
          case atStart => exact ⟨0, by omega, rfl, O, Mint.nil _ _⟩
          case round =>
            clear O
            obtain ⟨q, hq, rfl, O, M⟩ := hrel
            by_cases hlt : q < j
            · have g2 : ((q : Int)) < j := by omega
              have g3 : (0 : Int) ≤ q := by omega
              have ak := add_zero_ ga q
              have ca : wr.cell? ⟨ga, q, none⟩ = some (.bool (goodR E cell (q : Int) n)) := ((HJ.out.a.keeps O.keep (by simp)).cell q).trans (arrB_get _ _ _ hlt)
              have co : wr.cell? ⟨po, 0, none⟩ = some (.bool (someR E cell n)) := (HJ.out.o.keeps O.keep (by simp)).cell 0
              have HL := Lib.hid (guardN_length E cell n q)
              cases hg : goodR E cell (q : Int) n with
              | false =>
                have HN := Lib.hid (show guardN E cell n (q + 1) = guardN E cell n q by simp [guardN, hg])
                rw [hg] at ca
                clear hg
                go_wp2_with (first | go_big_skip)
                clear ca co ak
                go_roundw
                case rel => exact ⟨q + 1, by omega, by go_num, O, by rw [HN.out]; exact M⟩
                case measure => (simp [intOf] <;> omega)
              | true =>
                cases hs : someR E cell n with
                | false =>
                  have HN := Lib.hid (show guardN E cell n (q + 1) = guardN E cell n q by simp [guardN, hs])
                  rw [hg] at ca
                  rw [hs] at co
                  clear hg hs
                  go_wp2_with (first | go_big_skip)
                  clear ca co ak
                  go_roundw
                  case rel => exact ⟨q + 1, by omega, by go_num, O, by rw [HN.out]; exact M⟩
                  case measure => (simp [intOf] <;> omega)
                | true =>
                  have HN := Lib.hid (show guardN E cell n (q + 1) = guardN E cell n q ++ [(q : Int)] by simp [guardN, hg, hs])
                  rw [hg] at ca
                  rw [hs] at co
                  clear hg hs
                  go_wp2_with (first
                    | go_big_skip
                    | (refine own_lit1 61 (q : Int) O rfl rfl rfl rfl ?_; clear O; intro W gl O K1 hg; replace M := M.keeps K1 (by simp); clear K1 hg; simp only [Act.put, List.setIfInBounds_toArray, List.set_cons_zero, List.set_cons_succ])
                    | (at_builtin; refine own_app u.heap.size _ (guardN E cell n q) (q : Int) gl (.tmp 59) (.tmp 61) (O.drop_ 1) M rfl rfl rfl rfl ((O.get 0 rfl).cell 0) rfl (by simp) (by have := HL.out; omega) ?_; clear O M; intro v1 W O M; simp only [Act.put, List.setIfInBounds_toArray, List.set_cons_zero, List.set_cons_succ]))
                  clear ca co ak
                  go_roundw
                  case rel => exact ⟨q + 1, by omega, by go_num, O, by rw [HN.out]; exact M⟩
                  case measure => (simp [intOf] <;> omega)
            · have KO := Lib.hid (HKu.out.trans O.keep (by simp))
              have ML := Lib.hid (show IntL wr _ (guardN E cell n j) from by have := M.list; rwa [show q = j by omega] at this)
              obtain rfl : q = j := by omega
              go_wp2
              go_returns
              exact ⟨⟨_, by rw [HF.out]; rfl, by rw [HF.out]; exact ML.out⟩, KO.out⟩
  · have HF := Lib.hid (asked_nil_bad cell h)
    generalize guardR S E n cell = r at HF ⊢
    generalize askedR S E n [] = x at HA HF h
    obtain ⟨x0, x1⟩ := x
    simp only at h HF HA
    clear hS hE hwf
    go_enter Try.func35, Try.ntmps35
    go_wp2_with (first
      | go_big_skip
      | (refine own_box 3 (sysV S A c R d) O rfl rfl rfl rfl ?_; clear O; intro W ps O; simp only [Act.put, List.setIfInBounds_toArray, List.set_cons_zero, List.set_cons_succ])
      | (refine own_box1 4 (.slice B n cb) O rfl rfl rfl rfl rfl ?_; clear O; intro W pl O; simp only [Act.put, List.setIfInBounds_toArray, List.set_cons_zero, List.set_cons_succ])
      | (refine own_box1 5 (.int .i64 cell) O rfl rfl rfl rfl rfl ?_; clear O; intro W pc O; simp only [Act.put, List.setIfInBounds_toArray, List.set_cons_zero, List.set_cons_succ]; have cs : ∀ i, W.cell? ⟨ps, i, none⟩ = #[Value.slice A S.np c, .slice R S.nr d, .int .i64 S.gr, .int .i64 S.lk, .int .i64 S.ce][i]? := (O.get 2 rfl).cell; have cl := (O.get 1 rfl).cell 0; have cc := (O.get 0 rfl).cell 0)
      | (refine own_load 17 2 O rfl rfl rfl rfl rfl Try.underlying27 rfl (by kernel_rfl) ?_; simp only [Act.put, List.setIfInBounds_toArray, List.set_cons_zero, List.set_cons_succ])
      | (go_at_call 62; refine (HA.out _ O.keep).mono ?_; rintro e W ⟨rfl, K⟩; replace O := O.keeps K; clear K; clear cs cl cc; have cs : ∀ i, W.cell? ⟨ps, i, none⟩ = #[Value.slice A S.np c, .slice R S.nr d, .int .i64 S.gr, .int .i64 S.lk, .int .i64 S.ce][i]? := (O.get 2 rfl).cell; have cl := (O.get 1 rfl).cell 0; have cc := (O.get 0 rfl).cell 0))
    go_returns
    exact ⟨⟨_, by rw [HF.out]; rfl, by rw [HF.out]; exact IntL.nil _⟩, O.keep⟩
end
end Go.Proofs.Ytakmcpadkanggaa

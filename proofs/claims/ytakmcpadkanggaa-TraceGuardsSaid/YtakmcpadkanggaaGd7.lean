/-
  Part 7 of what this claim rests on.
-/
import Derived.Handy
import Derived.Great.BuildSlice
import Derived.WalkLawsBesides
import Derived.Recover
import Derived.Test.YtakmcpadkanggaaGd6
namespace Go.Proofs.Ytakmcpadkanggaa
open Go.RowKit Go.Maps Go.Deep
def guardN (E : Nat → Ev) (cell : Int) (n : Nat) : Nat → List Int
  | 0 => []
  | q + 1 => guardN E cell n q ++ (if goodR E cell (q : Int) n = true ∧ someR E cell n = true then [(q : Int)] else [])
theorem guardN_length (E : Nat → Ev) (cell : Int) (n : Nat) : ∀ m, (guardN E cell n m).length ≤ m
  | 0 => by simp [guardN]
  | m + 1 => by
    have := guardN_length E cell n m
    simp only [guardN, List.length_append]
    split <;> simp <;> omega
/-- What Guards answers: the locks, the error. -/
def guardR (S : Sys) (E : Nat → Ev) (n : Nat) (cell : Int) : List Int × Int :=
  if (thr S E n).2.2 = 0 then (if 0 ≤ cell ∧ cell < S.ce then (guardN E cell n S.lk.toNat, 0) else ([], 1)) else ([], (thr S E n).2.2)
theorem GInv.kept {w1 u u' : World} {E : Nat → Ev} {m po ga k : Nat} {cell : Int} (I : GInv w1 u E m cell po ga k) (K : Keeps u u' []) : GInv w1 u' E m cell po ga k :=
  ⟨I.keep.trans K (by simp), I.a.keeps K (by simp), I.o.keeps K (by simp)⟩
section
variable {w : World} {S : Sys} {A : Option Addr} {c : Nat} {R : Option Addr} {d n : Nat} {E : Nat → Ev} {B : Option Addr} {cb : Nat}
theorem asked_nil (h : (askedR S E n []).2 = 0) : (thr S E n).2.2 = 0 := by
  unfold askedR at h
  by_cases h0 : (thr S E n).2.2 = 0
  · exact h0
  · rw [if_neg h0] at h; exact absurd h h0
theorem asked_nil_bad (cell : Int) (h : ¬ (askedR S E n []).2 = 0) : guardR S E n cell = ([], (askedR S E n []).2) := by
  unfold askedR at h ⊢
  unfold guardR
  by_cases h0 : (thr S E n).2.2 = 0
  · rw [if_pos h0] at h; simp at h
  · rw [if_neg h0, if_neg h0]
theorem thr_free (hh : headB S = true) (h : ∀ j, j < n → okE S (stN E j) (E j) = true) : ∀ j, j < n → (E j).op = 9 → 0 ≤ (E j).a ∧ (E j).a < S.lk := fun j hj h9 => by
  have h1 := h j hj
  have h4 := ((headB_iff S).1 hh).2.2.2.2.1
  rw [shB_iff] at h4
  simp [okE, headE, h9, cnt] at h1
  omega
set_option maxRecDepth 100000 in
set_option maxHeartbeats 1000000 in
theorem guards_any (hS : SysIn w S A c R d) (hE : EvsAt w B n E) (hwf : ∀ i, i < n → (Lit.int .i64 (E i).a).wf = true) (cell : Int) : Calls Try.prog 35 #[.agg (sysV S A c R d), .slice B n cb, .int .i64 cell] w (HeldPost (guardR S E n cell) w) := by
  have O := Own.start w []
  have HA := Lib.hid (show ∀ u, Keeps w u [] → Calls Try.prog 62 #[.agg (sysV S A c R d), .slice B n cb, .slice none 0 0] u fun e w' => e = .returned (.tuple #[.int .i64 (askedR S E n []).1, .int .i64 (askedR S E n []).2]) ∧ Keeps u w' [] from fun u k => asked_any (cb := cb) (hS.kept k) (hE.kept k) hwf _ [] (IntL.nil _) (by simp))
  by_cases h : (askedR S E n []).2 = 0
  · have ht := asked_nil h
    obtain ⟨hv, hn, hok⟩ := thr_zero ht
    have hh := ((validB_iff S).1 hv).1
    obtain ⟨_, _, _, _, h4, h5⟩ := (headB_iff S).1 hh
    rw [shB_iff] at h4 h5
    obtain ⟨m, hm⟩ : ∃ m : Nat, S.lk = (m : Int) := ⟨S.lk.toNat, by omega⟩
    have HR := Lib.hid (show guardR S E n cell = if 0 ≤ cell ∧ cell < S.ce then (guardN E cell n m, 0) else ([], 1) by simp [guardR, ht, hm])
    have HW := Lib.hid (thr_who hok hn)
    have HFR := Lib.hid (thr_free hh hok)
    have HE := Lib.hid hE
    have HWF := Lib.hid hwf
    have HM := Lib.hid hm
    have b1 : m ≤ 64 := by omega
    have b2 : m ≤ 1000000 := by omega
    have HB := Lib.hid hn
    generalize hr : guardR S E n cell = r at HR ⊢
    clear hr ht hv hh h4 h5 hm hok hE hwf hS hn
    generalize askedR S E n [] = x at HA h
    obtain ⟨x0, x1⟩ := x
    simp only at h HA
    subst h
    by_cases hc0 : cell < 0
    · have HF := Lib.hid (show r = ([], 1) by rw [HR.out, if_neg]; omega)
      go_enter Try.func35, Try.ntmps35
      go_wp2_with (first
        | go_big_skip
        | (refine own_box 3 (sysV S A c R d) O rfl rfl rfl rfl ?_; clear O; intro W ps O; simp only [Act.put, List.setIfInBounds_toArray, List.set_cons_zero, List.set_cons_succ])
        | (refine own_box1 4 (.slice B n cb) O rfl rfl rfl rfl rfl ?_; clear O; intro W pl O; simp only [Act.put, List.setIfInBounds_toArray, List.set_cons_zero, List.set_cons_succ])
        | (refine own_box1 5 (.int .i64 cell) O rfl rfl rfl rfl rfl ?_; clear O; intro W pc O; simp only [Act.put, List.setIfInBounds_toArray, List.set_cons_zero, List.set_cons_succ]; have cs : ∀ i, W.cell? ⟨ps, i, none⟩ = #[Value.slice A S.np c, .slice R S.nr d, .int .i64 S.gr, .int .i64 S.lk, .int .i64 S.ce][i]? := (O.get 2 rfl).cell; have cl := (O.get 1 rfl).cell 0; have cc := (O.get 0 rfl).cell 0)
        | (refine own_load 17 2 O rfl rfl rfl rfl rfl Try.underlying27 rfl (by kernel_rfl) ?_; simp only [Act.put, List.setIfInBounds_toArray, List.set_cons_zero, List.set_cons_succ])
        | (go_at_call 62; refine (HA.out _ O.keep).mono ?_; rintro e W ⟨rfl, K⟩; replace O := O.keeps K; clear K; clear cs cl cc; have cs : ∀ i, W.cell? ⟨ps, i, none⟩ = #[Value.slice A S.np c, .slice R S.nr d, .int .i64 S.gr, .int .i64 S.lk, .int .i64 S.ce][i]? := (O.get 2 rfl).cell; have cl := (O.get 1 rfl).cell 0; have cc := (O.get 0 rfl).cell 0))
      go_returns
      exact ⟨⟨_, by rw [HF.out]; rfl, by rw [HF.out]; exact IntL.nil _⟩, O.keep⟩
    by_cases hc1 : S.ce ≤ cell
    · have HF := Lib.hid (show r = ([], 1) by rw [HR.out, if_neg]; omega)
      go_enter Try.func35, Try.ntmps35
      go_wp2_with (first
        | go_big_skip
        | (refine own_box 3 (sysV S A c R d) O rfl rfl rfl rfl ?_; clear O; intro W ps O; simp only [Act.put, List.setIfInBounds_toArray, List.set_cons_zero, List.set_cons_succ])
        | (refine own_box1 4 (.slice B n cb) O rfl rfl rfl rfl rfl ?_; clear O; intro W pl O; simp only [Act.put, List.setIfInBounds_toArray, List.set_cons_zero, List.set_cons_succ])
        | (refine own_box1 5 (.int .i64 cell) O rfl rfl rfl rfl rfl ?_; clear O; intro W pc O; simp only [Act.put, List.setIfInBounds_toArray, List.set_cons_zero, List.set_cons_succ]; have cs : ∀ i, W.cell? ⟨ps, i, none⟩ = #[Value.slice A S.np c, .slice R S.nr d, .int .i64 S.gr, .int .i64 S.lk, .int .i64 S.ce][i]? := (O.get 2 rfl).cell; have cl := (O.get 1 rfl).cell 0; have cc := (O.get 0 rfl).cell 0)
        | (refine own_load 17 2 O rfl rfl rfl rfl rfl Try.underlying27 rfl (by kernel_rfl) ?_; simp only [Act.put, List.setIfInBounds_toArray, List.set_cons_zero, List.set_cons_succ])
        | (go_at_call 62; refine (HA.out _ O.keep).mono ?_; rintro e W ⟨rfl, K⟩; replace O := O.keeps K; clear K; clear cs cl cc; have cs : ∀ i, W.cell? ⟨ps, i, none⟩ = #[Value.slice A S.np c, .slice R S.nr d, .int .i64 S.gr, .int .i64 S.lk, .int .i64 S.ce][i]? := (O.get 2 rfl).cell; have cl := (O.get 1 rfl).cell 0; have cc := (O.get 0 rfl).cell 0))
      go_returns
      exact ⟨⟨_, by rw [HF.out]; rfl, by rw [HF.out]; exact IntL.nil _⟩, O.keep⟩
    have HF := Lib.hid (show r = (guardN E cell n m, 0) by rw [HR.out, if_pos]; omega)
    go_enter Try.func35, Try.ntmps35
    go_wp2_with (first
      | go_big_skip
      | (refine own_box 3 (sysV S A c R d) O rfl rfl rfl rfl ?_; clear O; intro W ps O; simp only [Act.put, List.setIfInBounds_toArray, List.set_cons_zero, List.set_cons_succ])
      | (refine own_box1 4 (.slice B n cb) O rfl rfl rfl rfl rfl ?_; clear O; intro W pl O; simp only [Act.put, List.setIfInBounds_toArray, List.set_cons_zero, List.set_cons_succ])
      | (refine own_box1 5 (.int .i64 cell) O rfl rfl rfl rfl rfl ?_; clear O; intro W pc O; simp only [Act.put, List.setIfInBounds_toArray, List.set_cons_zero, List.set_cons_succ]; have cs : ∀ i, W.cell? ⟨ps, i, none⟩ = #[Value.slice A S.np c, .slice R S.nr d, .int .i64 S.gr, .int .i64 S.lk, .int .i64 S.ce][i]? := (O.get 2 rfl).cell; have cl := (O.get 1 rfl).cell 0; have cc := (O.get 0 rfl).cell 0)
      | (refine own_load 17 2 O rfl rfl rfl rfl rfl Try.underlying27 rfl (by kernel_rfl) ?_; simp only [Act.put, List.setIfInBounds_toArray, List.set_cons_zero, List.set_cons_succ])
      | (go_at_call 62; refine (HA.out _ O.keep).mono ?_; rintro e W ⟨rfl, K⟩; replace O := O.keeps K; clear K; clear cs cl cc; have cs : ∀ i, W.cell? ⟨ps, i, none⟩ = #[Value.slice A S.np c, .slice R S.nr d, .int .i64 S.gr, .int .i64 S.lk, .int .i64 S.ce][i]? := (O.get 2 rfl).cell; have cl := (O.get 1 rfl).cell 0; have cc := (O.get 0 rfl).cell 0)
      | (refine own_makeB 35 m O rfl rfl rfl (by show Value.int .i64 S.lk = _; rw [HM.out]) b2 ?_; clear O; intro W ga O; simp only [Act.put, List.setIfInBounds_toArray, List.set_cons_zero, List.set_cons_succ]; clear cs cl cc; have cs : ∀ i, W.cell? ⟨ps, i, none⟩ = #[Value.slice A S.np c, .slice R S.nr d, .int .i64 S.gr, .int .i64 S.lk, .int .i64 S.ce][i]? := (O.get 3 rfl).cell; have cl := (O.get 2 rfl).cell 0; have cc := (O.get 1 rfl).cell 0)
      | (refine own_alloc1 10 (.slice none 0 0) O rfl rfl rfl (fun _ => by kernel_rfl) rfl ?_; clear O; intro W pg O; simp only [Act.put, List.setIfInBounds_toArray, List.set_cons_zero, List.set_cons_succ]; clear cs cl cc; have cs : ∀ i, W.cell? ⟨ps, i, none⟩ = #[Value.slice A S.np c, .slice R S.nr d, .int .i64 S.gr, .int .i64 S.lk, .int .i64 S.ce][i]? := (O.get 4 rfl).cell; have cl := (O.get 3 rfl).cell 0; have cc := (O.get 2 rfl).cell 0)
      | (refine at_store (.tmp 10) (.tmp 35) rfl ?_; refine own_store 0 0 (.slice (some ⟨ga, 0, none⟩) m m) (.tmp 10) (.tmp 35) O rfl rfl rfl rfl rfl rfl (by show 0 < 1; omega) rfl rfl (by kernel_rfl) rfl ?_; clear O; intro W O; simp only [List.set_cons_zero] at O; clear cs cl cc; have cs : ∀ i, W.cell? ⟨ps, i, none⟩ = #[Value.slice A S.np c, .slice R S.nr d, .int .i64 S.gr, .int .i64 S.lk, .int .i64 S.ce][i]? := (O.get 4 rfl).cell; have cl := (O.get 3 rfl).cell 0; have cc := (O.get 2 rfl).cell 0; have cg := (O.get 0 rfl).cell 0))
    clear cs cl cc cg
    go_loopw [38] (fun i wr => ∃ j : Nat, j ≤ m ∧ i = .int .i64 j ∧ Own w wr [] [(pg, 41, #[.slice (some ⟨ga, 0, none⟩) m m]), (ga, 4, arrB m (mixG (fun _ => true) (fun _ => false) j)), (pc, 3, #[.int .i64 cell]), (pl, 31, #[.slice B n cb]), (ps, 27, sysV S A c R d)]) (fun i _ => m - (intOf i).toNat)
    case atStart => exact ⟨0, by omega, rfl, O.put 1 rfl (mixG_zero _ _ _).symm⟩
    case round =>
      obtain ⟨j, hj, rfl, O⟩ := hrel
      have cg := (O.get 0 rfl).cell 0
      by_cases hlt : j < m
      · have g2 : ((j : Int)) < m := by omega
        have g3 : (0 : Int) ≤ j := by omega
        have ak := add_zero_ ga j
        go_wp2_with (first
          | (refine own_store 1 j (.bool true) (.tmp 43) (.const (.bool true)) O rfl rfl rfl rfl rfl rfl (by simp only [arrB_size]; omega) rfl rfl (by kernel_rfl) (arrB_set _ _ _ _) ?_; clear O; intro W O; simp only [List.set_cons_zero, List.set_cons_succ] at O))
        clear cg ak
        go_roundw
        case rel => exact ⟨j + 1, by omega, by go_num, O.put 1 rfl (by rw [← mixG_step])⟩
        case measure => (simp [intOf] <;> omega)
      · obtain rfl : j = m := by omega
        replace O := O.put 1 rfl (mixG_all _ _ _)
        simp only [List.set_cons_zero, List.set_cons_succ] at O
        have cl := (O.get 3 rfl).cell 0
        go_wp2_with (first
          | (refine own_alloc1 12 (.bool false) O rfl rfl rfl (fun _ => by kernel_rfl) rfl ?_; clear O; intro W po O; simp only [Act.put, List.setIfInBounds_toArray, List.set_cons_zero, List.set_cons_succ]; clear cl cg; have cl := (O.get 4 rfl).cell 0)
          | (refine at_store (.tmp 12) (.const (.bool false)) rfl ?_; refine own_store 0 0 (.bool false) (.tmp 12) (.const (.bool false)) O rfl rfl rfl rfl rfl rfl (by show 0 < 1; omega) rfl rfl (by kernel_rfl) rfl ?_; clear O; intro W O; simp only [List.set_cons_zero] at O; clear cl; have cl := (O.get 4 rfl).cell 0))
        have HH := Lib.hid (show GuardAt W E B n cb j cell pl pg pc po ga from ⟨O.get 4 rfl, O.get 1 rfl, O.get 3 rfl, O.get 0 rfl, O.get 2 rfl, O.apart (i := 2) (j := 0) rfl rfl (by decide), HE.out.kept O.keep, fun hn0 ad hB => by
          have hlt : ∀ (x : Nat) (t : TypeId) (cs : Array Value), (x, t, cs) ∈ [(po, 4, #[Value.bool false]), (pg, 41, #[.slice (some ⟨ga, 0, none⟩) j j]), (ga, 4, arrB j fun _ => true), (pc, 3, #[.int .i64 cell]), (pl, 31, #[.slice B n cb]), (ps, 27, sysV S A c R d)] → w.heap.size ≤ x := fun x t cs hx => by
            rcases Nat.lt_or_ge x w.heap.size with h | h
            · exact absurd (O.new _ hx h) (by simp)
            · exact h
          have h1 := hlt po 4 #[Value.bool false] (by simp)
          have h2 := hlt ga 4 (arrB j fun _ => true) (by simp)
          obtain ⟨ad', e, hb, _⟩ := HE.out hn0
          rw [hB] at e
          cases e
          exact ⟨by omega, by omega⟩, b1, HB.out, HW.out, fun q hq h9 => by have := HFR.out q hq h9; have := HM.out; omega, HWF.out⟩)
        have HO := Lib.hid O
        clear cl O
        refine (holder_67 (w := W) (B := B) (cb := cb) (E := E) (fun q u => GInv W u E j cell po ga q) n _ _ _ _ ?_ HB.out HWF.out HW.out ?_ ?_ ?_ ?_).mono ?_
        · intro q u I
          have h1 := HH.out.fe
          intro hn0
          obtain ⟨ad, e, hb, hc⟩ := h1 hn0
          exact ⟨ad, e, by have := I.keep.size; omega, fun i q hi hq => by rw [I.keep.cellAt (by rw [add_block]; exact hb) (by rw [add_block]; simpa using ⟨(HH.out.off hn0 ad e).2, (HH.out.off hn0 ad e).1⟩)]; exact hc i q hi hq⟩
        · exact ⟨Keeps.refl _ _, HH.out.fa, HH.out.fo⟩
        · intro q u u' I K
          exact I.kept K
        · intro q u u' b mm f hz I M K
          refine ⟨I.keep.trans K (fun x hx hlt => ?_), I.a.keeps K (by simpa using M.not_blk I.a), I.o.keeps K (by simpa using M.not_blk I.o)⟩
          obtain rfl : x = b := by simpa using hx
          omega
        · intro q u b hq I M
          exact guard1_any HH.out hq I M
        · rintro e u ⟨rfl, J⟩
          have npg : pg ≠ ga ∧ pg ≠ po := ⟨HH.out.fg.ne HH.out.fa (by decide), HH.out.fg.ne HH.out.fo (by decide)⟩
          have HG := Lib.hid (HH.out.fg.keeps J.keep (by simpa using npg))
          have HJ := Lib.hid J
          have HKu := Lib.hid (show Keeps w u [] from HO.out.keep.trans J.keep (fun x hx hlt => by
            have hx' : x = ga ∨ x = po := by simpa using hx
            rcases hx' with rfl | rfl
            · exact HO.out.new _ (List.mem_of_getElem? (show _[2]? = some (x, 4, arrB j fun _ => true) from rfl)) hlt
            · exact HO.out.new _ (List.mem_of_getElem? (show _[0]? = some (x, 4, #[Value.bool false]) from rfl)) hlt))
          have cg := HG.out.cell 0
          have O := Own.start u []
          clear J npg
          go_wp2
          clear cg
          go_loopw [50, 13] (fun i v wr => ∃ q : Nat, q ≤ j ∧ i = .int .i64 q ∧ Own u wr [] [] ∧ Mint u.heap.size wr v (guardN E cell n q)) (fun i _ _ => j - (intOf i).toNat)
          case atStart => exact ⟨0, by omega, rfl, O, Mint.nil _ _⟩
          case round =>
            clear O
            obtain ⟨q, hq, rfl, O, M⟩ := hrel
            by_cases hlt : q < j
            · have g2 : ((q : Int)) < j := by omega
              have g3 : (0 : Int) ≤ q := by omega
              have ak := add_zero_ ga q
              have ca : wr.cell? ⟨ga, q, none⟩ = some (.bool (goodR E cell (q : Int) n)) := ((HJ.out.a.keeps O.keep (by simp)).cell q).trans (arrB_get _ _ _ hlt)
              have co : wr.cell? ⟨po, 0, none⟩ = some (.bool (someR E cell n)) := (HJ.out.o.keeps O.keep (by simp)).cell 0
              have HL := Lib.hid (guardN_length E cell n q)
              cases hg : goodR E cell (q : Int) n with
              | false =>
                have HN := Lib.hid (show guardN E cell n (q + 1) = guardN E cell n q by simp [guardN, hg])
                rw [hg] at ca
                clear hg
                go_wp2_with (first | go_big_skip)
                clear ca co ak
                go_roundw
                case rel => exact ⟨q + 1, by omega, by go_num, O, by rw [HN.out]; exact M⟩
                case measure => (simp [intOf] <;> omega)
              | true =>
                cases hs : someR E cell n with
                | false =>
                  have HN := Lib.hid (show guardN E cell n (q + 1) = guardN E cell n q by simp [guardN, hs])
                  rw [hg] at ca
                  rw [hs] at co
                  clear hg hs
                  go_wp2_with (first | go_big_skip)
                  clear ca co ak
                  go_roundw
                  case rel => exact ⟨q + 1, by omega, by go_num, O, by rw [HN.out]; exact M⟩
                  case measure => (simp [intOf] <;> omega)
                | true =>
                  have HN := Lib.hid (show guardN E cell n (q + 1) = guardN E cell n q ++ [(q : Int)] by simp [guardN, hg, hs])
                  rw [hg] at ca
                  rw [hs] at co
                  clear hg hs
                  go_wp2_with (first
                    | go_big_skip
                    | (refine own_lit1 61 (q : Int) O rfl rfl rfl rfl ?_; clear O; intro W gl O K1 hg; replace M := M.keeps K1 (by simp); clear K1 hg; simp only [Act.put, List.setIfInBounds_toArray, List.set_cons_zero, List.set_cons_succ])
                    | (at_builtin; refine own_app u.heap.size _ (guardN E cell n q) (q : Int) gl (.tmp 59) (.tmp 61) (O.drop_ 1) M rfl rfl rfl rfl ((O.get 0 rfl).cell 0) rfl (by simp) (by have := HL.out; omega) ?_; clear O M; intro v1 W O M; simp only [Act.put, List.setIfInBounds_toArray, List.set_cons_zero, List.set_cons_succ]))
                  clear ca co ak
                  go_roundw
                  case rel => exact ⟨q + 1, by omega, by go_num, O, by rw [HN.out]; exact M⟩
                  case measure => (simp [intOf] <;> omega)
            · have KO := Lib.hid (HKu.out.trans O.keep (by simp))
              have ML := Lib.hid (show IntL wr _ (guardN E cell n j) from by have := M.list; rwa [show q = j by omega] at this)
              obtain rfl : q = j := by omega
              go_wp2
              go_returns
              exact ⟨⟨_, by rw [HF.out]; rfl, by rw [HF.out]; exact ML.out⟩, KO.out⟩
  · have HF := Lib.hid (asked_nil_bad cell h)
    generalize guardR S E n cell = r at HF ⊢
    generalize askedR S E n [] = x at HA HF h
    obtain ⟨x0, x1⟩ := x
    simp only at h HF HA
    clear hS hE hwf
    go_enter Try.func35, Try.ntmps35
    go_wp2_with (first
      | go_big_skip
      | (refine own_box 3 (sysV S A c R d) O rfl rfl rfl rfl ?_; clear O; intro W ps O; simp only [Act.put, List.setIfInBounds_toArray, List.set_cons_zero, List.set_cons_succ])
      | (refine own_box1 4 (.slice B n cb) O rfl rfl rfl rfl rfl ?_; clear O; intro W pl O; simp only [Act.put, List.setIfInBounds_toArray, List.set_cons_zero, List.set_cons_succ])
      | (refine own_box1 5 (.int .i64 cell) O rfl rfl rfl rfl rfl ?_; clear O; intro W pc O; simp only [Act.put, List.setIfInBounds_toArray, List.set_cons_zero, List.set_cons_succ]; have cs : ∀ i, W.cell? ⟨ps, i, none⟩ = #[Value.slice A S.np c, .slice R S.nr d, .int .i64 S.gr, .int .i64 S.lk, .int .i64 S.ce][i]? := (O.get 2 rfl).cell; have cl := (O.get 1 rfl).cell 0; have cc := (O.get 0 rfl).cell 0)
      | (refine own_load 17 2 O rfl rfl rfl rfl rfl Try.underlying27 rfl (by kernel_rfl) ?_; simp only [Act.put, List.setIfInBounds_toArray, List.set_cons_zero, List.set_cons_succ])
      | (go_at_call 62; refine (HA.out _ O.keep).mono ?_; rintro e W ⟨rfl, K⟩; replace O := O.keeps K; clear K; clear cs cl cc; have cs : ∀ i, W.cell? ⟨ps, i, none⟩ = #[Value.slice A S.np c, .slice R S.nr d, .int .i64 S.gr, .int .i64 S.lk, .int .i64 S.ce][i]? := (O.get 2 rfl).cell; have cl := (O.get 1 rfl).cell 0; have cc := (O.get 0 rfl).cell 0))
    go_returns
    exact ⟨⟨_, by rw [HF.out]; rfl, by rw [HF.out]; exact IntL.nil _⟩, O.keep⟩
end
end Go.Proofs.Ytakmcpadkanggaa
namespace Go.Proofs.Ytakmcpadkanggaa
open Go.ChangeShapes Go.WideShapes Go.RowKit Go.Maps Go.Deep
theorem prow79 {W : World} {base n q m c : Nat} {v : Value} {ps : List (Int × Int)} {ad : Addr} (M : W.ownsRow base 79 2 v n (prL ps)) (hv : v = .slice (some ad) m c) (hq : q < ps.length) : ∀ j, j < (prC (ps.getD q (0, 0))).size → W.cell? ((ad.add (q * 2)).add j) = (prC (ps.getD q (0, 0)))[j]? := fun j hj => by
  have hj' : j < 2 := hj
  have h1 := prL_get ps q j hq hj'
  rw [Addr.add_add, ← h1]
  obtain ⟨x, hx⟩ : ∃ x, (prL ps)[q * 2 + j]? = some x := ⟨_, List.getElem?_eq_getElem (by rw [prL_length]; omega)⟩
  rw [hx]
  exact (gr_cell M hv hx).2
section
variable {w : World} {S : Sys} {A : Option Addr} {c : Nat} {R : Option Addr} {d n : Nat} {E : Nat → Ev} {B : Option Addr} {cb : Nat}
theorem races_len (S : Sys) (E : Nat → Ev) (rm : Int → Int) (n : Nat) (most : Int) : (racesR S E rm n most).1.length ≤ 4096 := by
  unfold racesR
  split
  · split
    · simp
    · rw [List.length_take]; omega
  · simp
end
end Go.Proofs.Ytakmcpadkanggaa
namespace Go.Proofs.Ytakmcpadkanggaa
open Go.RowKit
section
variable {S : Sys} {E : Nat → Ev} {rm : Int → Int} {n : Nat} {l cell : Int}
theorem refW_succ (l : Int) (k : Nat) : refW E l (k + 1) = if (E k).op = 9 ∧ (E k).a = l then -1 else if (E k).op = 8 ∧ (E k).a = l then (E k).who else refW E l k := rfl
theorem held_succ (k : Nat) : (stN E (k + 1)).held l = if (E k).op = 9 ∧ (E k).a = l then false else if (E k).op = 8 ∧ (E k).a = l then true else (stN E k).held l := by
  show (nextE (stN E k) (E k)).held l = _
  generalize E k = e
  unfold nextE
  by_cases ha : e.a = l
  · subst ha
    repeat' split
    all_goals simp_all [updI_same]
  · have ha' : ¬ l = e.a := fun h => ha h.symm
    repeat' split
    all_goals simp_all [updI_other]
/-- No one holds what is not held. -/
theorem ref_free (hok : OkAll S E n) : ∀ k, k ≤ n → (stN E k).held l = false → refW E l k = -1
  | 0, _, _ => rfl
  | k + 1, hk, h => by
    rw [held_succ] at h
    rw [refW_succ]
    by_cases h9 : (E k).op = 9 ∧ (E k).a = l
    · rw [if_pos h9]
    · rw [if_neg h9] at h ⊢
      by_cases h8 : (E k).op = 8 ∧ (E k).a = l
      · rw [if_pos h8] at h; cases h
      · rw [if_neg h8] at h ⊢
        exact ref_free hok k (by omega) h
theorem lock_free (hok : OkAll S E n) {k : Nat} (hk : k < n) (h8 : (E k).op = 8) : refW E (E k).a k = -1 := by
  refine ref_free hok k (by omega) ?_
  have h := hok k hk
  simp only [okE, Bool.and_eq_true] at h
  have hb := h.2
  unfold bodyE at hb
  simpa [h8] using hb
theorem rw_good : ∀ {m k : Nat}, goodR E cell l m = true → k < m → (rwB (E k) cell = true → refW E l k = (E k).who) ∧ ((E k).op = 9 → (E k).a = l → refW E l k = (E k).who)
  | 0, _, _, h => by omega
  | m + 1, k, hg, h => by
    simp only [goodR, Bool.and_eq_true] at hg
    obtain ⟨h1, h2, h3⟩ := hg
    by_cases e : k = m
    · subst e
      refine ⟨fun hr => ?_, fun h9 ha => ?_⟩
      · simpa [hr] using h2
      · simpa [h9, ha] using h3
    · exact rw_good h1 (by omega)
/-- From where one held the lock to where another does. -/
theorem lock_chain (hok : OkAll S E n) (hg : goodR E cell l n = true) {i : Nat} {p : Int} (hp : refW E l i = p) (hp0 : 0 ≤ p) : ∀ k, i ≤ k → k ≤ n → refW E l k = p ∨ ∃ f, i ≤ f ∧ f < k ∧ (E f).who = p ∧ (E f).op = 9 ∧ ((refW E l k = -1 ∧ ∃ z : Nat, (z : Int) ∈ (lkN E k).rows 2 l ∧ (f = z ∨ Bh E rm f z)) ∨ ∃ h, f < h ∧ h < k ∧ (E h).who = refW E l k ∧ 0 ≤ refW E l k ∧ Bh E rm f h)
  | 0, hi, _ => by
    obtain rfl : i = 0 := by omega
    exact .inl hp
  | k + 1, hi, hk => by
    by_cases e : i = k + 1
    · subst e; exact .inl hp
    have ih := lock_chain hok hg hp hp0 k (by omega) (by omega)
    have hw0 := (ok_head (hok k (by omega))).1
    rw [refW_succ]
    have hrow : (lkN E (k + 1)).rows 2 l = if (E k).op = 9 ∧ (E k).a = l then (lkN E k).rows 2 l ++ [(k : Int)] else if (E k).op = 8 ∧ (E k).a = l then [] else (lkN E k).rows 2 l := nextK_r2 _ _ _ _
    by_cases h9 : (E k).op = 9 ∧ (E k).a = l
    · rw [if_pos h9]
      rw [if_pos h9] at hrow
      have hh := (rw_good hg (show k < n by omega)).2 h9.1 h9.2
      rcases ih with ih | ⟨f, h1, h2, h3, h4, ih⟩
      · exact .inr ⟨k, by omega, by omega, by rw [← hh, ih], h9.1, .inl ⟨rfl, k, by rw [hrow]; simp, .inl rfl⟩⟩
      · rcases ih with ⟨ih, _⟩ | ⟨h, g1, g2, g3, g4, g5⟩
        · omega
        · exact .inr ⟨f, h1, by omega, h3, h4, .inl ⟨rfl, k, by rw [hrow]; simp, .inr (g5.trans (own_behind hok k (by omega) h g2 (by rw [g3, hh])))⟩⟩
    · rw [if_neg h9]
      rw [if_neg h9] at hrow
      by_cases h8 : (E k).op = 8 ∧ (E k).a = l
      · rw [if_pos h8]
        have hf := lock_free hok (show k < n by omega) h8.1
        rw [h8.2] at hf
        rcases ih with ih | ⟨f, h1, h2, h3, h4, ih⟩
        · omega
        · rcases ih with ⟨_, z, g1, g2⟩ | ⟨h, g1, g2, g3, g4, g5⟩
          · have hz : (z : Int) ∈ intoL E rm k := by
              refine ((sc_law _).2 _).2 ?_
              unfold nextR
              refine List.mem_append_right _ ?_
              rw [if_neg (by omega), if_neg (by omega), if_pos h8.1, h8.2]
              exact g1
            refine .inr ⟨f, h1, by omega, h3, h4, .inr ⟨k, h2, by omega, rfl, hw0, ?_⟩⟩
            rcases g2 with rfl | g2
            · exact .edge hz
            · exact .step g2 hz
          · omega
      · rw [if_neg h8]
        rw [if_neg h8] at hrow
        rcases ih with ih | ⟨f, h1, h2, h3, h4, ih⟩
        · exact .inl ih
        · refine .inr ⟨f, h1, by omega, h3, h4, ?_⟩
          rcases ih with ⟨g0, z, g1, g2⟩ | ⟨h, g1, g2, g3, g4, g5⟩
          · exact .inl ⟨g0, z, by rw [hrow]; exact g1, g2⟩
          · exact .inr ⟨h, g1, by omega, g3, g4, g5⟩
/-- Accesses of a cell under a guard are told of. -/
theorem guard_told (hok : OkAll S E n) (hg : goodR E cell l n = true) {i j : Nat} (hij : i < j) (hj : j < n) (hi1 : rwB (E i) cell = true) (hj1 : rwB (E j) cell = true) : clk E rm i (E i).who ≤ clk E rm j (E i).who := by
  have key : Bh E rm i j := by
    by_cases hw : (E i).who = (E j).who
    · exact own_behind hok j hj i hij hw
    · have hi2 := (rw_good hg (show i < n by omega)).1 hi1
      have hj2 := (rw_good hg hj).1 hj1
      have hi0 := (ok_head (hok i (by omega))).1
      have hj0 := (ok_head (hok j hj)).1
      rcases lock_chain (rm := rm) hok hg hi2 hi0 j (by omega) (by omega) with h | ⟨f, h1, h2, h3, h4, h⟩
      · exact absurd (h.symm.trans hj2) hw
      · rcases h with ⟨h, _⟩ | ⟨h, g1, g2, g3, g4, g5⟩
        · omega
        · have hif : i ≠ f := fun e => by
            subst e
            simp only [rwB, Bool.and_eq_true, Bool.or_eq_true, decide_eq_true_eq] at hi1
            omega
          exact ((own_behind hok f (by omega) i (by omega) h3.symm).trans g5).trans (own_behind hok j hj h g2 (by rw [g3, hj2]))
  exact ((bh_clk hok (by omega) hj).1 key).2
/-- So none of them races. -/
theorem guard_safe (hok : OkAll S E n) (hg : goodR E cell l n = true) {x : Int × Int} (hx : x ∈ raceA E rm n) : ∃ i j : Nat, x = prR i j ∧ i < j ∧ j < n ∧ (E i).a ≠ cell := by
  obtain ⟨i, j, e, h1, h2, h3⟩ := race_mem n hx
  refine ⟨i, j, e, h1, h2, fun hc => ?_⟩
  obtain ⟨⟨a1, a2⟩, _, a3, _, a4⟩ := rc_iff.1 h3
  refine a4 (guard_told hok hg h1 h2 ?_ ?_)
  · simpa [rwB, acB, hc] using a1
  · simpa [rwB, acB, ← a3, hc] using a2
theorem guardN_good : ∀ {m : Nat} {x : Int}, x ∈ guardN E cell n m → goodR E cell x n = true
  | 0, x, h => by simp [guardN] at h
  | m + 1, x, h => by
    simp only [guardN, List.mem_append] at h
    rcases h with h | h
    · exact guardN_good h
    · split at h
      · rename_i hh
        rw [List.mem_singleton.1 h]
        exact hh.1
      · simp at h
end
end Go.Proofs.Ytakmcpadkanggaa
namespace Go.Proofs.Ytakmcpadkanggaa
open Go.RowKit Go.Maps Go.Deep
theorem Mint.apart {base : Nat} {W : World} {v : Value} {xs : List Int} (h : Mint base W v xs) {g t : Nat} {cs : Array Value} (hB : Blk W g t cs) (ht : t ≠ 3) : ∀ b, v.ownBlock = some b → b ∉ [g] := fun b hb hm => by
  obtain ⟨_, _, cur, hcur⟩ := h.own hb
  obtain rfl : b = g := by simpa using hm
  rw [Blk, hcur] at hB
  injection hB with hB
  injection hB with _ h1 _
  exact ht h1.symm
end Go.Proofs.Ytakmcpadkanggaa
namespace Go.Proofs.Ytakmcpadkanggaa
open Go.RowKit Go.Maps Go.Deep
section
variable {ops : Array Oper} {rest : List Oper} {o : Oper} {a : Act} {w W : World} {Q : Exit → Act → World → Prop} {Sx : List Nat} {L : List Ent}
set_option maxRecDepth 100000 in
/-- A new row of given cells. -/
theorem own_lit (d T e len : Nat) (size : Nat) (z : Value) (parts : Array (Nat × Operand)) (cells : Array Value) (O : Own w W Sx L) (_hd : o.dst = some d) (hgd : o.guard = none) (ho : o.op = .buildSlice T len parts) (ht : Try.prog.underlying T = some (.slice e))
    (hi : (Try.prog.info? e).map (fun i => (i.zero, i.size)) = some (some z, size)) (h1 : ¬ len * size > 2 ^ 24) (h2 : ¬ len * size = 0)
    (hf : Instr.fill (fun i => some (i * size, size)) ((Array.range (len * size)).map (z.cells[· % z.cells.size]!)) (parts.map fun (i, x) => (i, a.eval x)).toList = some cells)
    (h : ∀ u g, Own w u Sx ((g, e, cells) :: L) → wpList Try.prog ops Q rest (a.put o.dst (.slice (some ⟨g, 0, none⟩) len len)) u) : wpList Try.prog ops Q (o :: rest) a W := by
  obtain ⟨i, hi2, he⟩ := Option.map_eq_some_iff.1 hi
  simp only [Prod.mk.injEq] at he
  obtain ⟨hz, hs⟩ := he
  subst hs
  have k := (Keeps.refl W []).alloc (.cells cells e)
  exact wpList_buildSlice hgd T e len parts ho cells i z ht hi2 hz h1 h2 hf (h _ _ (O.add k (Blk.new _ _ _)))
end
end Go.Proofs.Ytakmcpadkanggaa
namespace Go.Proofs.Ytakmcpadkanggaa
open Go.RowKit Go.Maps Go.Deep
def aliveS : Sys := ⟨1, fun _ => 0, fun _ _ _ => 0, 0, fun _ => 0, 0, 0, 1⟩
theorem rowT24 : RowT 24 97 1 24 (.slice none 0 0) := by
  have h : (Try.prog.info? 97).map (fun i => (i.zero, i.size, i.bytes)) = some (some (.slice none 0 0), 1, 24) := by kernel_rfl
  obtain ⟨i, hi, he⟩ := Option.map_eq_some_iff.1 h
  simp only [Prod.mk.injEq] at he
  exact ⟨Try.underlying24, ⟨i, hi, he.1, he.2.1, he.2.2⟩, rfl, by decide⟩
variable {w : World}
set_option maxRecDepth 100000 in
theorem small14_any : Calls Try.prog 78 #[] w fun e u => (∃ A c, e = .returned (.agg (sysV aliveS A c none 0)) ∧ SysIn u aliveS A c none 0) ∧ Keeps w u [] := by
  have O := Own.start w []
  go_enter Try.func78, Try.ntmps78
  go_wp2_with (first
    | (refine own_alloc 0 (#[Value.slice none 0 0, .slice none 0 0, .int .i64 0, .int .i64 0, .int .i64 0]) O rfl rfl rfl (fun _ => by kernel_rfl) ?_; clear O; intro W a0 O; simp only [Act.put, List.setIfInBounds_toArray, List.set_cons_zero, List.set_cons_succ])
    | (refine own_alloc 1 (#[Value.slice none 0 0, .slice none 0 0, .int .i64 0, .int .i64 0, .int .i64 0]) O rfl rfl rfl (fun _ => by kernel_rfl) ?_; clear O; intro W a1 O; have c1 := (O.get 0 rfl).cell 0; simp only [Act.put, List.setIfInBounds_toArray, List.set_cons_zero, List.set_cons_succ])
    | (refine own_lit 4 24 97 1 1 (.slice none 0 0) _ (#[Value.slice none 0 0]) O rfl rfl rfl Try.underlying24 (by kernel_rfl) (by decide) (by decide) (by kernel_rfl) ?_; clear O c1; intro W gl O; simp only [Act.put, List.setIfInBounds_toArray, List.set_cons_zero, List.set_cons_succ])
    | (at_builtin; (refine gr_app (z := .slice none 0 0) (.tmp 3) (.tmp 4) rowT24 O (gr_nil w.heap.size 97 1 W) rfl (by simp [Value.oneCell']) rfl rfl rfl rfl (Nat.le_refl _) O.keep.size (fun q _ => by simp [Value.ownBlock]) (by decide) (by decide) ?_; clear O; intro v1 W O M K _; clear K; obtain ⟨A1, k1, hv1, hnz, hc1, hc2⟩ := gr_shape M; subst hv1; simp only [Act.put, List.setIfInBounds_toArray, List.set_cons_zero, List.set_cons_succ]))
    | (refine own_storeK (cs' := #[.slice A1 1 k1, .slice none 0 0, .int .i64 0, .int .i64 0, .int .i64 0]) 0 0 (.slice A1 1 k1) (.tmp 6) (.tmp 5) O rfl rfl rfl rfl rfl rfl (by simp) rfl rfl (by kernel_rfl) rfl ?_; have hne := gr_ne M (O.get 0 rfl) (by decide); clear O; intro W O K; replace M := gr_keeps M K (fun g hg hm => hne (by rw [List.mem_singleton.1 hm] at hg; exact hg)); clear K hne; simp only [List.set_cons_zero, List.set_cons_succ] at O)
    | (refine own_storeK (cs' := sysV aliveS A1 k1 none 0) 0 4 (.int .i64 1) (.tmp 7) (.const (.int .i64 1)) O rfl rfl rfl rfl rfl rfl (by simp) rfl rfl (by kernel_rfl) rfl ?_; have hne := gr_ne M (O.get 0 rfl) (by decide); clear O; intro W O K; replace M := gr_keeps M K (fun g hg hm => hne (by rw [List.mem_singleton.1 hm] at hg; exact hg)); clear K hne; simp only [List.set_cons_zero, List.set_cons_succ] at O)
    | ((refine own_store_rowK 1 (.tmp 0) (.tmp 8) (cs' := sysV aliveS A1 k1 none 0) O rfl rfl rfl rfl rfl rfl (by kernel_rfl) (by rfl) (by simp [sysV, Value.oneCell']) ?_; have hne := gr_ne M (O.get 1 rfl) (by decide); clear O; intro W O K; replace M := gr_keeps M K (fun g hg hm => hne (by rw [List.mem_singleton.1 hm] at hg; exact hg)); clear K hne; simp only [List.set_cons_zero, List.set_cons_succ] at O))
    | (refine own_load 8 0 O rfl rfl rfl rfl rfl Try.underlying27 rfl (by kernel_rfl) ?_; simp only [Act.put, List.setIfInBounds_toArray, List.set_cons_zero, List.set_cons_succ])
    | go_big_skip)
  refine bodyPost_ret (v := .agg (sysV aliveS A1 k1 none 0)) (results_cell_row rfl _ _ a0 27 _ _ _ rfl (O.get 1 rfl) Try.underlying27 rfl (by kernel_rfl)) rfl ⟨⟨_, _, rfl, ⟨fun _ => ?_, fun h => absurd h (by decide), hc1, hc2, Nat.le_refl _, by simp [maxLen]⟩⟩, O.keep⟩
  have hA : A1 ≠ none := fun h => absurd (hnz h).1 (by decide)
  obtain ⟨ad, rfl⟩ : ∃ ad, A1 = some ad := Option.ne_none_iff_exists'.1 hA
  have hc := gr_cell M rfl (j := 0) (x := .slice none 0 0) rfl
  refine ⟨ad, rfl, hc.1, fun p hp => ⟨none, 0, ?_, Nat.le_refl _, by simp [maxLen], fun h => absurd (show 0 < 0 from h) (by decide)⟩⟩
  obtain rfl : p = 0 := by have h : p < 1 := hp; omega
  exact hc.2
end Go.Proofs.Ytakmcpadkanggaa
namespace Go.Proofs.Ytakmcpadkanggaa
open Go.RowKit Go.Maps Go.Deep
/-- What the document's Before answers. -/
def refBR (S : Sys) (E : Nat → Ev) (n : Nat) (i j : Int) : Bool × Int :=
  if (thr S E n).2.2 = 0 then (if (0 ≤ i ∧ i < n) ∧ (0 ≤ j ∧ j < n) then (behT E (rmS S) i.toNat n j, 0) else (false, 1)) else (false, (thr S E n).2.2)
end Go.Proofs.Ytakmcpadkanggaa
namespace Go.Proofs.Ytakmcpadkanggaa
open Go.RowKit
theorem before_eq (S : Sys) (E : Nat → Ev) (n : Nat) (i j : Int) : beforeR S E n i j = refBR S E n i j := by
  by_cases h : (thr S E n).2.2 = 0
  · by_cases hb : (0 ≤ i ∧ i < n) ∧ (0 ≤ j ∧ j < n)
    · have ha : [i, j].all (insB n) = true := by simp [insB, hb]
      obtain ⟨_, _, hok⟩ := thr_zero h
      obtain ⟨⟨h1, h2⟩, h3, h4⟩ := hb
      unfold beforeR refBR askedR
      rw [if_pos h, if_pos ha, if_pos rfl, if_pos h, if_pos ⟨⟨h1, h2⟩, h3, h4⟩, bef_beh hok (by omega) (by omega)]
      rw [show ((j.toNat : Nat) : Int) = j by omega]
    · have ha : ¬ [i, j].all (insB n) = true := fun hh => hb (by simpa [insB] using hh)
      unfold beforeR refBR askedR
      rw [if_pos h, if_neg ha, if_neg (by simp), if_pos h, if_neg hb]
  · unfold beforeR refBR askedR
    rw [if_neg h, if_neg h, if_neg h]
end Go.Proofs.Ytakmcpadkanggaa
namespace Go.Proofs.Ytakmcpadkanggaa
open Go.RowKit Go.Maps Go.Deep
section
variable {ops : Array Oper} {rest : List Oper} {o : Oper} {a : Act} {w W : World} {Q : Exit → Act → World → Prop} {S : List Nat} {L : List Ent} {T e size bytes n base gl : Nat} {z v : Value} {xs : List Value} {cs : Array Value} {x0 : Operand}
/-- Some elements more. -/
theorem gr_appM (m : Nat) (s y : Operand) (hT : RowT T e size bytes z) (O : Own w W S ((gl, e, cs) :: L)) (M : W.ownsRow base e size v n xs) (hcs : cs.size = m * size) (h1 : ∀ u ∈ cs.toList, u.oneCell' = true) (hgd : o.guard = none)
    (ho : o.op = .call { callee := .builtin .append, args := #[s, y], argTypes := #[T, T] }) (hs : a.eval s = v) (hy : a.eval y = .slice (some ⟨gl, 0, none⟩) m m) (hb : w.heap.size ≤ base) (hbW : base ≤ W.heap.size) (hL : ∀ q ∈ L, v.ownBlock ≠ some q.1)
    (hn : n ≤ 5000000) (hm : 0 < m ∧ m ≤ 10) (hby : bytes ≤ 1000)
    (h : ∀ v' u, Own w u S L → u.ownsRow base e size v' (n + m) (xs ++ cs.toList) → Keeps W u v.ownBlock.toList → (v'.ownBlock = v.ownBlock ∨ v'.ownBlock = some W.heap.size) → wpList Try.prog ops Q rest (a.put o.dst v') u) : wpList Try.prog ops Q (o :: rest) a W := by
  obtain ⟨ht, ⟨i, hi, hz, hsz, hbt⟩, hzs, hpos⟩ := hT
  have hB := O.get 0 rfl
  have hl : cs.toList.length = m * size := by rw [← hcs]; simp
  have hnews : ∀ j u, cs.toList[j]? = some u → W.cell? ((⟨gl, 0, none⟩ : Addr).add j) = some u := gr_news hB
  have hbytes : (n + m) * bytes ≤ 140737488355328 := Nat.le_trans (Nat.mul_le_mul (show n + m ≤ 5000010 by omega) hby) (by decide)
  obtain ⟨v', u, hr, h2, h3, _⟩ := run_append_own (P := Try.prog) W base T o.type e i z size bytes ht hi hz hsz hbt hzs hpos v n _ M ⟨gl, 0, none⟩ m m cs.toList hl hnews h1 (by simp only [maxLen]; omega) hbytes hbW
  have hf := append_fresh (w := W) (P := Try.prog) base T o.type e i z size bytes ht hi hz hsz hbt v n _ M ⟨gl, 0, none⟩ m m cs.toList hl hnews h1 (by simp only [maxLen]; omega) hbytes (by omega) hr
  refine wpList_plain hgd fun K hK => ?_
  unfold Oper.wp execOp
  simp only [ho, resolve, invoke, builtin, Sem.run_bind, Sem.run_pure, Result.andThen_ok, List.map_toArray, List.map_cons, List.map_nil, hs, hy, hr]
  have hk := grown_keepsV h3
  refine hK _ _ (h v' u ((O.drop_ 1).wrote hk (fun b hb' hlt => ?_) (fun q hq hm => hL q hq (by simpa using hm))) h2 hk hf)
  have := (gr_own M (g := b) (by simpa using hb')).1
  omega
end
theorem rowT31 : RowT 31 37 5 40 (.agg #[Value.int .i64 0, .int .i64 0, .int .i64 0, .int .i64 0, .bool false]) := by
  have h : (Try.prog.info? 37).map (fun i => (i.zero, i.size, i.bytes)) = some (some (.agg #[Value.int .i64 0, .int .i64 0, .int .i64 0, .int .i64 0, .bool false]), 5, 40) := by kernel_rfl
  obtain ⟨i, hi, he⟩ := Option.map_eq_some_iff.1 h
  simp only [Prod.mk.injEq] at he
  exact ⟨Try.underlying31, ⟨i, hi, he.1, he.2.1, he.2.2⟩, rfl, by decide⟩
def aliveE : Nat → Ev := fun _ => ⟨0, 16, 0, 0, false⟩
theorem alive_before : beforeR aliveS aliveE 2 0 1 = (true, 0) := by
  have h : (thr aliveS aliveE 2).2.2 = 0 := by decide +kernel
  obtain ⟨_, _, hok⟩ := thr_zero h
  rw [before_eq]
  unfold refBR
  rw [if_pos h, if_pos (by decide)]
  rw [show behT aliveE (rmS aliveS) (Int.toNat 0) 2 1 = true from (behT_iff hok 1 (by omega)).2 (own_behind hok 1 (by omega) 0 (by omega) rfl)]
theorem alive_evs {W : World} {base k1 : Nat} {v : Value} {A1 : Option Addr} (M : W.ownsRow base 37 5 v 2 [Value.int .i64 0, .int .i64 16, .int .i64 0, .int .i64 0, .bool false, .int .i64 0, .int .i64 16, .int .i64 0, .int .i64 0, .bool false]) (hv : v = .slice A1 2 k1) (hnz : A1 = none → 2 = 0 ∧ k1 = 0) : EvsAt W A1 2 aliveE := fun _ => by
  have hA : A1 ≠ none := fun h => absurd (hnz h).1 (by decide)
  obtain ⟨ad, rfl⟩ : ∃ ad, A1 = some ad := Option.ne_none_iff_exists'.1 hA
  refine ⟨ad, rfl, (gr_cell M hv (j := 0) (x := .int .i64 0) rfl).1, fun i j hi hj => ?_⟩
  have hi' : i = 0 ∨ i = 1 := by omega
  have hj' : j = 0 ∨ j = 1 ∨ j = 2 ∨ j = 3 ∨ j = 4 := by omega
  rcases hi' with rfl | rfl <;> rcases hj' with rfl | rfl | rfl | rfl | rfl <;> exact (gr_cell M hv rfl).2
theorem alive_any {w : World} : Calls Try.prog 43 #[] w fun e u => e = .returned (.bool true) ∧ Keeps w u [] := by
  have O := Own.start w []
  go_enter Try.func43, Try.ntmps43
  go_wp2_with (first
    | (refine wpList_const 5 (.agg #[Value.int .i64 0, .int .i64 16, .int .i64 0, .int .i64 0, .bool false]) rfl rfl (fun _ => by kernel_rfl) ?_; simp only [Act.put, List.setIfInBounds_toArray, List.set_cons_zero, List.set_cons_succ])
    | (refine wpList_const 6 (.agg #[Value.int .i64 0, .int .i64 16, .int .i64 0, .int .i64 0, .bool false]) rfl rfl (fun _ => by kernel_rfl) ?_; simp only [Act.put, List.setIfInBounds_toArray, List.set_cons_zero, List.set_cons_succ])
    | (refine own_lit 7 31 37 2 5 (.agg #[Value.int .i64 0, .int .i64 0, .int .i64 0, .int .i64 0, .bool false]) _ (#[Value.int .i64 0, .int .i64 16, .int .i64 0, .int .i64 0, .bool false, .int .i64 0, .int .i64 16, .int .i64 0, .int .i64 0, .bool false]) O rfl rfl rfl Try.underlying31 (by kernel_rfl) (by decide) (by decide) (by kernel_rfl) ?_; clear O; intro W gl O; simp only [Act.put, List.setIfInBounds_toArray, List.set_cons_zero, List.set_cons_succ])
    | (at_builtin; (refine gr_appM (z := .agg #[Value.int .i64 0, .int .i64 0, .int .i64 0, .int .i64 0, .bool false]) 2 (.tmp 4) (.tmp 7) rowT31 O (gr_nil w.heap.size 37 5 W) rfl (by simp [Value.oneCell']) rfl rfl rfl rfl (Nat.le_refl _) O.keep.size (fun q _ => by simp [Value.ownBlock]) (by decide) (by decide) (by decide) ?_; clear O; intro v1 W O M K _; clear K; obtain ⟨A1, k1, hv1, hnz, hc1, hc2⟩ := gr_shape M; subst hv1; simp only [Act.put, List.setIfInBounds_toArray, List.set_cons_zero, List.set_cons_succ]))
    | (go_at_call 78; refine small14_any.mono ?_; rintro e W ⟨⟨A, c, rfl, HS⟩, K⟩; replace O := O.keeps K; replace M := gr_keeps M K (by simp); clear K)
    | (go_at_call 44; (refine (tbefore_any HS (alive_evs M rfl hnz) hc1 (fun _ _ => rfl) 0 1).mono ?_; rintro e W ⟨rfl, K⟩; replace O := O.keeps K; clear K; rw [alive_before]))
    | go_big_skip)
  go_returns
  exact ⟨rfl, O.keep⟩
end Go.Proofs.Ytakmcpadkanggaa
namespace Go.Proofs.Ytakmcpadkanggaa
open Go.ChangeShapes Go.WideShapes Go.RowKit Go.Maps Go.Deep
section
variable {w : World} {S : Sys} {A : Option Addr} {c : Nat} {R : Option Addr} {d n : Nat} {E : Nat → Ev} {B : Option Addr} {cb : Nat}
theorem races_bad_nil (h : ¬ (racesR S E (rmS S) n 4096).2 = 0) : (racesR S E (rmS S) n 4096).1 = [] := by
  unfold racesR at h ⊢
  split at h <;> rename_i h0
  · rw [if_pos h0]; simp at h
  · rw [if_neg h0]
theorem races_ok (h : (racesR S E (rmS S) n 4096).2 = 0) : (thr S E n).2.2 = 0 ∧ (racesR S E (rmS S) n 4096).1 = (raceA E (rmS S) n).take 4096 := by
  unfold racesR at h ⊢
  split at h <;> rename_i h0
  · rw [if_pos h0]; exact ⟨h0, by simp⟩
  · exact absurd h h0
/-- What holds of the pairs told. -/
def PairOk (E : Nat → Ev) (n : Nat) (x : Int × Int) : Prop := ∃ i j : Nat, x = prR i j ∧ i < j ∧ j < n ∧ ((E i).op = 13 ∨ ((E i).op = 12 ∧ (E j).op = 13)) ∧ (E i).a = (E j).a ∧ (E i).who ≠ (E j).who
theorem pair_ok {x : Int × Int} (h : x ∈ raceA E (rmS S) n) : PairOk E n x := by
  obtain ⟨i, j, e, h1, h2, h3⟩ := race_mem n h
  obtain ⟨⟨a1, a2⟩, a3, a4, a5, _⟩ := rc_iff.1 h3
  refine ⟨i, j, e, h1, h2, ?_, a4, a5⟩
  simp only [acB, Bool.or_eq_true, decide_eq_true_eq] at a1
  omega
set_option maxRecDepth 100000 in
set_option maxHeartbeats 1000000 in
theorem guards_walk_bad (hS : SysIn w S A c R d) (hE : EvsAt w B n E) (hwf : ∀ i, i < n → (Lit.int .i64 (E i).a).wf = true) (cell : Int) (h : ¬ (racesR S E (rmS S) n 4096).2 = 0) :
    Calls Try.prog 17 #[.agg (sysV S A c R d), .slice B n cb, .int .i64 cell] w fun e w' => e = .returned (.bool true) ∧ Keeps w w' [] := by
  have O := Own.start w []
  have HA := Lib.hid (fun u (k : Keeps w u []) => traces_any (cb := cb) (hS.kept k) (hE.kept k) hwf 4096)
  have hx := races_bad_nil h
  clear hS hE hwf
  generalize racesR S E (rmS S) n 4096 = x at *
  obtain ⟨xs, er⟩ := x
  simp only at hx h
  subst hx
  unfold RacPost at HA
  simp only at HA
  have e1 : (er != 0) = true := by simpa using h
  go_enter Try.func17, Try.ntmps17
  go_wp2_with (first
    | go_big_skip
    | (refine own_box 3 (sysV S A c R d) O rfl rfl rfl rfl ?_; clear O; intro W a3 O; simp only [Act.put, List.setIfInBounds_toArray, List.set_cons_zero, List.set_cons_succ])
    | (go_at_call 43; refine alive_any.mono ?_; rintro e W ⟨rfl, K⟩; replace O := O.keeps K; clear K)
    | (refine own_load 18 0 O rfl rfl rfl rfl rfl Try.underlying27 rfl (by kernel_rfl) ?_; simp only [Act.put, List.setIfInBounds_toArray, List.set_cons_zero, List.set_cons_succ])
    | (go_at_call 41; refine (HA.out _ O.keep).mono ?_; rintro e W ⟨⟨v1, rfl, q1⟩, K⟩; replace O := O.keeps K; clear K; obtain ⟨A1, p1, hv1, _⟩ := gr_shape q1; replace hv1 : v1 = .slice A1 0 p1 := hv1; subst hv1; clear q1))
  go_returns
  exact ⟨rfl, O.keep⟩
set_option maxRecDepth 100000 in
set_option maxHeartbeats 4000000 in
theorem guards_walk_good (hS : SysIn w S A c R d) (hE : EvsAt w B n E) (hwf : ∀ i, i < n → (Lit.int .i64 (E i).a).wf = true) (cell : Int) (h : (racesR S E (rmS S) n 4096).2 = 0) :
    Calls Try.prog 17 #[.agg (sysV S A c R d), .slice B n cb, .int .i64 cell] w fun e w' => e = .returned (.bool true) ∧ Keeps w w' [] := by
  have O := Own.start w []
  have HA := Lib.hid (fun u (k : Keeps w u []) => traces_any (cb := cb) (hS.kept k) (hE.kept k) hwf 4096)
  have HGD := Lib.hid (fun u (k : Keeps w u []) => guards_any (cb := cb) (hS.kept k) (hE.kept k) hwf cell)
  obtain ⟨ht, hx⟩ := races_ok h
  obtain ⟨hv, hn, hok⟩ := thr_zero ht
  have HPO := Lib.hid (show ∀ x ∈ (racesR S E (rmS S) n 4096).1, PairOk E n x from fun x hm => pair_ok (List.mem_of_mem_take (by rw [hx] at hm; exact hm)))
  have HSF := Lib.hid (show (guardR S E n cell).1 ≠ [] → ∀ x ∈ (racesR S E (rmS S) n 4096).1, ∃ i j : Nat, x = prR i j ∧ i < j ∧ j < n ∧ (E i).a ≠ cell from fun hg x hm => by
    obtain ⟨g, hg'⟩ := List.exists_mem_of_ne_nil _ hg
    have hgn : goodR E cell g n = true := by
      unfold guardR at hg'
      rw [if_pos ht] at hg'
      split at hg'
      · exact guardN_good hg'
      · simp at hg'
    exact guard_safe hok hgn (List.mem_of_mem_take (by rw [hx] at hm; exact hm)))
  have HL := Lib.hid (races_len S E (rmS S) n 4096)
  have HE := Lib.hid hE
  clear hS hE hwf hx ht hv hok
  generalize racesR S E (rmS S) n 4096 = x at *
  obtain ⟨xs, er⟩ := x
  generalize guardR S E n cell = gr at *
  obtain ⟨gs, ge⟩ := gr
  simp only at h HPO HSF HL
  subst h
  unfold RacPost at HA
  unfold HeldPost at HGD
  simp only at HA HGD
  obtain ⟨m, hm⟩ : ∃ m, m = xs.length := ⟨_, rfl⟩
  have HMX := Lib.hid hm
  have hm4 : m ≤ 4096 := by have := HL.out; omega
  clear hm HL
  go_enter Try.func17, Try.ntmps17
  go_wp2_with (first
    | go_big_skip
    | (refine own_box 3 (sysV S A c R d) O rfl rfl rfl rfl ?_; clear O; intro W a3 O; simp only [Act.put, List.setIfInBounds_toArray, List.set_cons_zero, List.set_cons_succ])
    | (go_at_call 43; refine alive_any.mono ?_; rintro e W ⟨rfl, K⟩; replace O := O.keeps K; clear K)
    | (refine own_load 18 0 O rfl rfl rfl rfl rfl Try.underlying27 rfl (by kernel_rfl) ?_; simp only [Act.put, List.setIfInBounds_toArray, List.set_cons_zero, List.set_cons_succ])
    | (go_at_call 41; refine (HA.out _ O.keep).mono ?_; rintro e W ⟨⟨v1, rfl, q1⟩, K⟩; replace O := O.keeps K; clear K; obtain ⟨A1, p1, hv1, _⟩ := gr_shape q1; rw [← HMX.out] at hv1; subst hv1; have Hv1 := Lib.hid q1; clear q1))
  have HW0 := Lib.hid O.keep
  go_loopg [9] m (fun gg s9 wr => ∃ q : Nat, q ≤ m ∧ gg = m - q ∧ s9 = .int .i64 (q : Int) ∧ Own w wr [] [(a3, 27, sysV S A c R d)] ∧ Keeps W wr [])
  case atStart => exact ⟨0, by omega, by omega, rfl, O, Keeps.refl _ _⟩
  case round =>
    clear O
    rename World => wt
    obtain ⟨q, hq, hgq, rfl, O, K0⟩ := hrel
    have HG := Lib.hid hgq
    have HK := Lib.hid K0
    clear hgq K0
    by_cases hqm : q < m
    · have g1 : (q : Int) < m := by omega
      have g2 : (0 : Int) ≤ q := by omega
      have HQ := Lib.hid (show q < xs.length by rw [← HMX.out]; exact hqm)
      obtain ⟨ad, c1', e2⟩ : ∃ ad c1, Value.slice A1 m p1 = .slice (some ad) m c1 := by
        obtain ⟨A', c', e', hA, _⟩ := gr_shape Hv1.out
        cases A' with
        | none => have := (hA rfl).1; have := HQ.out; omega
        | some ad => exact ⟨ad, c', by rw [e', ← HMX.out]⟩
      cases e2
      obtain ⟨x, hx⟩ : ∃ x, x = xs.getD q (0, 0) := ⟨_, rfl⟩
      have hxm : x ∈ xs := by rw [hx, List.getD_eq_getElem?_getD, List.getElem?_eq_getElem HQ.out]; exact List.getElem_mem _
      have HRA := Lib.hid (fun u (K : Keeps wt u []) => (by have := prow79 (q := q) (gr_keeps Hv1.out (HK.out.trans K (by simp)) (by simp)) rfl HQ.out; rw [← hx] at this; exact this : ∀ j, j < (prC x).size → u.cell? ((ad.add (q * 2)).add j) = (prC x)[j]?))
      clear hx
      obtain ⟨i, j, hxe, hij, hj, hops, hca, hwne⟩ := HPO.out x hxm
      obtain ⟨ae, hBe, hci⟩ := EvsAt.row (u := w) HE.out (show i < n by omega)
      subst hBe
      obtain ⟨ae', hBe, hcj⟩ := EvsAt.row (u := w) HE.out hj
      cases hBe
      have HCI := Lib.hid (fun u (K : Keeps w u []) => hci [] u K (by simp))
      have HCJ := Lib.hid (fun u (K : Keeps w u []) => hcj [] u K (by simp))
      subst hxe
      have cI : wt.cell? (ad.add (q * 2)) = some (.int .i64 (i : Int)) := by have := HRA.out wt (Keeps.refl _ _) 0 (show 0 < 2 by decide); rw [Addr.add_add] at this; simpa [prC, prR] using this
      have cJ : wt.cell? ⟨(ad.add (q * 2)).block, (ad.add (q * 2)).off + 1, none⟩ = some (.int .i64 (j : Int)) := HRA.out wt (Keeps.refl _ _) 1 (show 1 < 2 by decide)
      have z1 : (i : Int) < n := by omega
      have z2 : (j : Int) < n := by omega
      have z3 : (0 : Int) ≤ i := by omega
      have z4 : (0 : Int) ≤ j := by omega
      have z5 : decide ((i : Int) < 0) = false := decide_eq_false (by omega)
      have z6 : decide ((j : Int) ≤ (i : Int)) = false := decide_eq_false (by omega)
      have z7 : decide ((n : Int) ≤ (j : Int)) = false := decide_eq_false (by omega)
      have y1 : decide (j ≤ i) = false := decide_eq_false (by omega)
      have y2 : ¬ j ≤ i := by omega
      have y3 : decide (n ≤ j) = false := decide_eq_false (by omega)
      have y4 : ¬ n ≤ j := by omega
      have z8 : ¬ (i : Int) < 0 := by omega
      have z9 : ¬ (j : Int) ≤ (i : Int) := by omega
      have z10 : ¬ (n : Int) ≤ (j : Int) := by omega
      obtain ⟨wi, oi, ai, vi, si, hei⟩ : ∃ v o a b s, E i = ⟨v, o, a, b, s⟩ := ⟨_, _, _, _, _, rfl⟩
      obtain ⟨wj, oj, aj, vj, sj, hej⟩ : ∃ v o a b s, E j = ⟨v, o, a, b, s⟩ := ⟨_, _, _, _, _, rfl⟩
      rw [hei] at hops hca hwne HCI
      rw [hej] at hops hca hwne HCJ
      simp only at hops hca hwne
      subst hca
      have e1 : (ai != ai) = false := by simp
      have e2 : (wi == wj) = false := by simpa using hwne
      clear hei hej hwne HRA hci hcj hxm
      rcases hops with rfl | ⟨rfl, rfl⟩
      · have cells := True.intro
        go_wp2
        go_quiet (fail)
        clear cI cJ
        generalize hW : World.drewN wt _ = W5
        have KD : Keeps wt W5 [] := by rw [← hW]; exact (Keeps.refl wt []).drewN _
        clear hW
        replace O := O.keeps KD
        replace HK := Lib.hid (HK.out.trans KD (by simp))
        have c0 : W5.cell? (ae.add (i * 5)) = some (.int .i64 wi) := by have := HCI.out W5 O.keep 0 (show 0 < 5 by decide); rw [Addr.add_add] at this; simpa [evC] using this
        have c1 : W5.cell? ⟨(ae.add (i * 5)).block, (ae.add (i * 5)).off + 1, none⟩ = some (.int .i64 13) := HCI.out W5 O.keep 1 (show 1 < 5 by decide)
        have c2 : W5.cell? ⟨(ae.add (i * 5)).block, (ae.add (i * 5)).off + 2, none⟩ = some (.int .i64 ai) := HCI.out W5 O.keep 2 (show 2 < 5 by decide)
        have d0 : W5.cell? (ae.add (j * 5)) = some (.int .i64 wj) := by have := HCJ.out W5 O.keep 0 (show 0 < 5 by decide); rw [Addr.add_add] at this; simpa [evC] using this
        have d1 : W5.cell? ⟨(ae.add (j * 5)).block, (ae.add (j * 5)).off + 1, none⟩ = some (.int .i64 oj) := HCJ.out W5 O.keep 1 (show 1 < 5 by decide)
        have d2 : W5.cell? ⟨(ae.add (j * 5)).block, (ae.add (j * 5)).off + 2, none⟩ = some (.int .i64 ai) := HCJ.out W5 O.keep 2 (show 2 < 5 by decide)
        go_wp2
        go_quiet (fail)
        clear c0 c1 c2 d0 d1 d2 KD
        generalize hW : World.drewN W5 _ = W6
        have KD : Keeps W5 W6 [] := by rw [← hW]; exact (Keeps.refl W5 []).drewN _
        clear hW
        go_wp2
        go_roundg (m - (q + 1))
        case measure => (have := HG.out; omega)
        case rel => exact ⟨q + 1, by omega, rfl, by go_num, O.keeps KD, HK.out.trans KD (by simp)⟩
      · have cells := True.intro
        go_wp2
        go_quiet (fail)
        clear cI cJ
        generalize hW : World.drewN wt _ = W5
        have KD : Keeps wt W5 [] := by rw [← hW]; exact (Keeps.refl wt []).drewN _
        clear hW
        replace O := O.keeps KD
        replace HK := Lib.hid (HK.out.trans KD (by simp))
        have c0 : W5.cell? (ae.add (i * 5)) = some (.int .i64 wi) := by have := HCI.out W5 O.keep 0 (show 0 < 5 by decide); rw [Addr.add_add] at this; simpa [evC] using this
        have c1 : W5.cell? ⟨(ae.add (i * 5)).block, (ae.add (i * 5)).off + 1, none⟩ = some (.int .i64 12) := HCI.out W5 O.keep 1 (show 1 < 5 by decide)
        have c2 : W5.cell? ⟨(ae.add (i * 5)).block, (ae.add (i * 5)).off + 2, none⟩ = some (.int .i64 ai) := HCI.out W5 O.keep 2 (show 2 < 5 by decide)
        have d0 : W5.cell? (ae.add (j * 5)) = some (.int .i64 wj) := by have := HCJ.out W5 O.keep 0 (show 0 < 5 by decide); rw [Addr.add_add] at this; simpa [evC] using this
        have d1 : W5.cell? ⟨(ae.add (j * 5)).block, (ae.add (j * 5)).off + 1, none⟩ = some (.int .i64 13) := HCJ.out W5 O.keep 1 (show 1 < 5 by decide)
        have d2 : W5.cell? ⟨(ae.add (j * 5)).block, (ae.add (j * 5)).off + 2, none⟩ = some (.int .i64 ai) := HCJ.out W5 O.keep 2 (show 2 < 5 by decide)
        go_wp2
        go_quiet (fail)
        clear c0 c1 c2 d0 d1 d2 KD
        generalize hW : World.drewN W5 _ = W6
        have KD : Keeps W5 W6 [] := by rw [← hW]; exact (Keeps.refl W5 []).drewN _
        clear hW
        go_wp2
        go_roundg (m - (q + 1))
        case measure => (have := HG.out; omega)
        case rel => exact ⟨q + 1, by omega, rfl, by go_num, O.keeps KD, HK.out.trans KD (by simp)⟩
    · obtain rfl : m = q := by omega
      clear hqm
      obtain ⟨gl, hgl⟩ : ∃ gl, gl = gs.length := ⟨_, rfl⟩
      have HGL := Lib.hid hgl
      clear hgl
      by_cases hge : ge = 0
      · subst hge
        by_cases hg0 : gl = 0
        · subst hg0
          go_wp2_with (first
            | go_big_skip
            | (refine own_load 100 0 O rfl rfl rfl rfl rfl Try.underlying27 rfl (by kernel_rfl) ?_; simp only [Act.put, List.setIfInBounds_toArray, List.set_cons_zero, List.set_cons_succ])
            | (go_at_call 35; refine (HGD.out _ O.keep).mono ?_; rintro e W3 ⟨⟨v2, rfl, q2⟩, K⟩; replace O := O.keeps K; replace HK := Lib.hid (HK.out.trans K (by simp)); clear K; obtain ⟨A2, p2, hv2, _⟩ := q2; rw [← HGL.out] at hv2; subst hv2))
          go_returns
          exact ⟨rfl, O.keep⟩
        · have y5 : ¬ (gl : Int) = 0 := by omega
          have y6 : ((gl : Int) == 0) = false := by simp [hg0]
          have y7 : (gl == 0) = false := by simp [hg0]
          have HS2 := Lib.hid (HSF.out (fun e => by have := HGL.out; rw [e] at this; exact hg0 this))
          go_wp2_with (first
            | go_big_skip
            | (refine own_load 100 0 O rfl rfl rfl rfl rfl Try.underlying27 rfl (by kernel_rfl) ?_; simp only [Act.put, List.setIfInBounds_toArray, List.set_cons_zero, List.set_cons_succ])
            | (go_at_call 35; refine (HGD.out _ O.keep).mono ?_; rintro e W3 ⟨⟨v2, rfl, q2⟩, K⟩; replace O := O.keeps K; replace HK := Lib.hid (HK.out.trans K (by simp)); clear K; obtain ⟨A2, p2, hv2, _⟩ := q2; rw [← HGL.out] at hv2; subst hv2))
          clear HGD HPO HSF y5
          go_loopg [14] m (fun gg s14 wr => ∃ q : Nat, q ≤ m ∧ gg = m - q ∧ s14 = .int .i64 (q : Int) ∧ Own w wr [] [(a3, 27, sysV S A c R d)] ∧ Keeps W wr [])
          case atStart => exact ⟨0, by omega, by omega, rfl, O, HK.out⟩
          case round =>
            clear O HK HG
            rename World => wt
            obtain ⟨q, hq, hgq, rfl, O, K0⟩ := hrel
            have HG := Lib.hid hgq
            have HK := Lib.hid K0
            clear hgq K0
            by_cases hqm : q < m
            · have g1 : (q : Int) < m := by omega
              have g2 : (0 : Int) ≤ q := by omega
              have HQ := Lib.hid (show q < xs.length by rw [← HMX.out]; exact hqm)
              obtain ⟨ad, c1', e2⟩ : ∃ ad c1, Value.slice A1 m p1 = .slice (some ad) m c1 := by
                obtain ⟨A', c', e', hA, _⟩ := gr_shape Hv1.out
                cases A' with
                | none => have := (hA rfl).1; have := HQ.out; omega
                | some ad => exact ⟨ad, c', by rw [e', ← HMX.out]⟩
              cases e2
              obtain ⟨x, hx⟩ : ∃ x, x = xs.getD q (0, 0) := ⟨_, rfl⟩
              have hxm : x ∈ xs := by rw [hx, List.getD_eq_getElem?_getD, List.getElem?_eq_getElem HQ.out]; exact List.getElem_mem _
              have HRA := Lib.hid (fun u (K : Keeps wt u []) => (by have := prow79 (q := q) (gr_keeps Hv1.out (HK.out.trans K (by simp)) (by simp)) rfl HQ.out; rw [← hx] at this; exact this : ∀ j, j < (prC x).size → u.cell? ((ad.add (q * 2)).add j) = (prC x)[j]?))
              clear hx
              obtain ⟨i, j, hxe, hij, hj, hca⟩ := HS2.out x hxm
              obtain ⟨ae, hBe, hci⟩ := EvsAt.row (u := w) HE.out (show i < n by omega)
              subst hBe
              subst hxe
              have z1 : (i : Int) < n := by omega
              have z3 : (0 : Int) ≤ i := by omega
              have e3 : ((E i).a == cell) = false := by simpa using hca
              have cI : wt.cell? (ad.add (q * 2)) = some (.int .i64 (i : Int)) := by have := HRA.out wt (Keeps.refl _ _) 0 (show 0 < 2 by decide); rw [Addr.add_add] at this; simpa [prC, prR] using this
              have c2 : wt.cell? ⟨(ae.add (i * 5)).block, (ae.add (i * 5)).off + 2, none⟩ = some (.int .i64 (E i).a) := hci [] wt O.keep (by simp) 2 (show 2 < 5 by decide)
              generalize (E i).a = ai at c2 e3
              clear hci hca hxm HRA
              go_wp2
              clear cI c2
              go_roundg (m - (q + 1))
              case measure => (have := HG.out; omega)
              case rel => exact ⟨q + 1, by omega, rfl, by go_num, O, HK.out⟩
            · obtain rfl : m = q := by omega
              go_wp2
              go_returns
              exact ⟨rfl, O.keep⟩
      · have e1 : (ge != 0) = true := by simpa using hge
        go_wp2_with (first
          | go_big_skip
          | (refine own_load 100 0 O rfl rfl rfl rfl rfl Try.underlying27 rfl (by kernel_rfl) ?_; simp only [Act.put, List.setIfInBounds_toArray, List.set_cons_zero, List.set_cons_succ])
          | (go_at_call 35; refine (HGD.out _ O.keep).mono ?_; rintro e W3 ⟨⟨v2, rfl, q2⟩, K⟩; replace O := O.keeps K; replace HK := Lib.hid (HK.out.trans K (by simp)); clear K; obtain ⟨A2, p2, hv2, _⟩ := q2; rw [← HGL.out] at hv2; subst hv2))
        go_returns
        exact ⟨rfl, O.keep⟩
theorem guards_walk (hS : SysIn w S A c R d) (hE : EvsAt w B n E) (hwf : ∀ i, i < n → (Lit.int .i64 (E i).a).wf = true) (cell : Int) :
    Calls Try.prog 17 #[.agg (sysV S A c R d), .slice B n cb, .int .i64 cell] w fun e w' => e = .returned (.bool true) ∧ Keeps w w' [] := by
  by_cases h : (racesR S E (rmS S) n 4096).2 = 0
  · exact guards_walk_good hS hE hwf cell h
  · exact guards_walk_bad hS hE hwf cell h
end
end Go.Proofs.Ytakmcpadkanggaa

/-
  A run of the world (sched's run): a deferred closure that recovers; a loop over the steps.
-/
import Derived.Test.YtakmcpadkanggaaT36
import Derived.Test.YtakmcpadkanggaaT37
import Derived.Recover
namespace Go.Proofs.Ytakmcpadkanggaa
open Go.RowKit Go.Maps Go.Deep

theorem OM.perm {w W : World} {L L' : List Ent} {r : Rw} (M : OM w W L r) (h : L'.Perm L) : OM w W L' r := by
  obtain ⟨O, hr1, hr2, aE, aH, aHH⟩ := M
  exact ⟨⟨O.keep, fun q hq => O.blk q (h.mem_iff.1 hq), fun q hq => O.new q (h.mem_iff.1 hq), (h.map _).nodup_iff.2 O.nd⟩, hr1, hr2, fun q hq => aE q (h.mem_iff.1 hq), fun c hc q hq => aH c hc q (h.mem_iff.1 hq), aHH⟩
theorem mod_twice' (v : Int) (c : Nat) (h : 0 < c) (h' : c ≤ 1000000) : (wrap64 (v.tmod c + c)).tmod c = v % (c : Int) := by
  have h0 : (0 : Int) < c := by omega
  have h1 := Int.tmod_lt_of_pos v h0
  have h2 := Int.lt_tmod_of_pos v h0
  have e : wrap64 (v.tmod c + c) = v.tmod c + c := IntWalk.wrap64_in _ (by omega)
  rw [e, Int.tmod_eq_emod_of_nonneg (by omega), Int.add_emod_right]
  have h3 := Int.mul_tdiv_add_tmod v c
  conv => rhs; rw [← h3, Int.add_comm, Int.add_mul_emod_self_left]
/-- No step makes more than one runner, or lays more than one number into a channel. -/
def Small (P : PW) (x : PW × Int) : Prop := x.1.n ≤ P.n + 1 ∧ ∀ c, (x.1.held c).length ≤ (P.held c).length + 1
theorem small_ite {P : PW} {c : Prop} [Decidable c] {x y : PW × Int} (h1 : Small P x) (h2 : Small P y) : Small P (if c then x else y) := by split <;> assumption
theorem stepP_small (S : Sys) (P : PW) (k : Nat) (f : Nat → Int) : Small P (stepP S P k f) := by
  unfold stepP
  simp only []
  repeat' (refine small_ite ?_ ?_)
  all_goals first
    | exact ⟨Nat.le_succ _, fun c => Nat.le_succ _⟩
    | exact ⟨Nat.le_refl _, fun c => Nat.le_succ _⟩
    | skip
  · refine ⟨Nat.le_succ _, fun c => ?_⟩
    show (updN P.held (f 1).toNat _ c).length ≤ _
    by_cases e : c = (f 1).toNat
    · subst e; rw [updN_same]; simp
    · rw [updN_other _ _ _ _ e]; omega
  · cases hh : P.held (f 1).toNat with
    | nil => exact ⟨Nat.le_succ _, fun c => Nat.le_succ _⟩
    | cons x l =>
      refine ⟨Nat.le_succ _, fun c => ?_⟩
      show (updN P.held (f 1).toNat l c).length ≤ _
      by_cases e : c = (f 1).toNat
      · subst e; rw [updN_same, hh]; simp; omega
      · rw [updN_other _ _ _ _ e]; omega
section
variable {w W : World} {L : List Ent} {r : Rw} {e6 e7 : Nat}
set_option maxRecDepth 100000 in
theorem catch_panicking (x : Int) (older : List PanicEntry) (i j : Nat) (M : OM w W L r) (h6 : L[i]? = some (e6, 3, #[.int .i64 0])) (h7 : L[j]? = some (e7, 22, #[.int .i64 0])) (hne : i ≠ j) :
    CallsD Try.prog 89 #[.pointer (some ⟨e6, 0, none⟩), .pointer (some ⟨e7, 0, none⟩)] (.panicking ({ v := .iface 22 (.int .i64 x), recovered := false } :: older)) W fun e u' w' =>
      e = .returned (.tuple #[]) ∧ u' = .panicking ({ v := .iface 22 (.int .i64 x), recovered := true } :: older) ∧ OM w w' ((L.set i (e6, 3, #[.int .i64 3])).set j (e7, 22, #[.int .i64 x])) r := by
  refine callsD_of_wpS Try.func89 rfl fun c₀ cs hu => ?_
  apply wpS_seq
  apply wpS_region
  simp [wpOpsS, go_sem, recoverD, hu, Try.ntmps89, Exit.thenS]
  apply wpS_seq
  apply wpS_region
  simp [wpOpsS, go_sem, recoverD, Exit.thenS]
  refine wpS_cond (t := true) (by simp [Act.eval, Array.replicate]) ?_
  simp only [if_true]
  refine wpS_of_wp ?_
  show Code.wp Try.prog _ _ { tmps := #[.pointer (some ⟨e6, 0, none⟩), .pointer (some ⟨e7, 0, none⟩), .iface 22 (.int .i64 x), .iface 22 (.int .i64 x), .iface 22 (.int .i64 x), .bool true, undef, undef], defers := [] } W
  refine wp_headH (S := fun _ => True) 3 (by kernel_rfl) (by kernel_rfl) ?_
  replace M := M.keeps (Keeps.refl _ _).drew
  have hta : ∀ (v : Value) (w : World), (Instr.typeAssert (.iface 22 v) 20 22 false).run Try.prog w = .ok v w := fun _ _ => by kernel_rfl
  refine ah_take (f := 1) (L' := #[true, true, false, false]) trivial [0, 1] [_, _] _ _ rfl (by decide) (by kernel_rfl) ?_
  simp only [List.getElem_toArray, List.getElem_cons_zero, List.getElem_cons_succ]
  repeat (first
    | (refine take_pure (v := ?_) (by rfl) ?_ ?_; rotate_left; (· (intro w hSw; clear hSw; go_simp; try with_reducible rfl)); simp only [Act.put, List.setIfInBounds_toArray, List.set_cons_zero, List.set_cons_succ]))
  refine takeA_done ?_
  refine ah_sole 2 #[true, true, true, false] rfl (by decide) (by kernel_rfl) ?_
  try simp only [List.getElem_toArray, List.getElem_cons_zero, List.getElem_cons_succ]
  go_wp2_with (refine at_store (.tmp 0) (.const (.int .i64 3)) rfl ?_; refine om_store i 0 (.int .i64 3) (.tmp 0) (.const (.int .i64 3)) M rfl rfl rfl rfl rfl h6 (by decide) rfl rfl (by kernel_rfl) rfl ?_; clear M; intro V M)
  (first | refine backA_intro2 trivial ?_ | refine backA_intro trivial ?_)
  refine ah_tail (by kernel_rfl) ?_
  try simp only [List.drop]
  have h7' : (L.set i (e6, 3, #[Value.int .i64 3]))[j]? = some (e7, 22, #[.int .i64 0]) := (List.getElem?_set_ne hne).trans h7
  go_wp2_with (refine at_store (.tmp 1) (.tmp 7) rfl ?_; refine om_store j 0 (.int .i64 x) (.tmp 1) (.tmp 7) M rfl rfl rfl rfl rfl h7' (by decide) rfl rfl (by kernel_rfl) rfl ?_; clear M; intro V M)
  refine np_intro ?_
  cases c₀
  refine ⟨rfl, _, rfl, _, ?_, rfl, rfl, M⟩
  simp [results, Try.results89]
theorem catch_idle : CallsD Try.prog 89 #[.pointer (some ⟨e6, 0, none⟩), .pointer (some ⟨e7, 0, none⟩)] .returning W fun e u' w' => e = .returned (.tuple #[]) ∧ u' = .returning ∧ w' = W := by
  refine callsD_of_wpS Try.func89 rfl fun c₀ cs hu => ?_
  apply wpS_seq
  apply wpS_region
  simp [wpOpsS, go_sem, recoverD, hu, Try.ntmps89, Exit.thenS]
  apply wpS_seq
  apply wpS_region
  simp [wpOpsS, go_sem, recoverD, hu, Exit.thenS]
  refine wpS_cond (t := false) (by simp [Act.eval, Array.replicate]) ?_
  simp only [Bool.false_eq_true, if_false]
  refine wpS_of_wp (wp_skip ?_)
  cases c₀
  simp_all [bodyPostS, results, Try.results89]
theorem more_any (t : Int) : Calls Try.prog 58 #[.int .i64 t] W fun e W' => e = .returned (.bool true) ∧ W = W' := by
  go_enter Try.func58, Try.ntmps58
  go_wp2
  go_ret
  exact ⟨rfl, rfl⟩
/-- What a run has come to. -/
def EndR (w : World) (S : Sys) (A : Option Addr) (c : Nat) (R : Option Addr) (d : Nat) (y : Ly) (Lr : List Ent) (X : RunP) (e : Ending) (W' : World) : Prop := e = .returned (.tuple #[.int .i64 X.fin, .int .i64 X.fault]) ∧ InW w W' S A c R d y Lr X.P
theorem run_door {S : Sys} {A : Option Addr} {c : Nat} {R : Option Addr} {d : Nat} {y : Ly} {Lr : List Ent} {X : RunP} {a : Act} (hd : a.defers = [{ target := Target.fn (Fn.func 89) #[.pointer (some ⟨e6, 0, none⟩), .pointer (some ⟨e7, 0, none⟩)], args := #[] }])
    (h6 : a.tmps[6]? = some (.pointer (some ⟨e6, 0, none⟩))) (h7 : a.tmps[7]? = some (.pointer (some ⟨e7, 0, none⟩))) (h : InW w W S A c R d y ((e7, 22, #[Value.int .i64 X.fault]) :: (e6, 3, #[Value.int .i64 X.fin]) :: Lr) X.P) :
    bodyPostD Try.prog Try.f57 (EndR w S A c R d y Lr X) .ret a W := by
  unfold bodyPostD
  simp only [hd]
  refine leaves_cons (f := 89) (args := #[.pointer (some ⟨e6, 0, none⟩), .pointer (some ⟨e7, 0, none⟩)]) (by simp) (by simp [go_sem]) ?_
  refine catch_idle.mono ?_
  rintro e u' w'' ⟨rfl, rfl, rfl⟩
  obtain ⟨gw, cw, cur, evs, hv, M, hC, q1, q2, q3⟩ := h
  have c6 := (M.get 8 rfl).cell 0
  have c7 := (M.get 7 rfl).cell 0
  refine ⟨_, ?_, rfl, gw, cw, cur, evs, hv, (M.perm (List.perm_append_comm_assoc [_, _] [_, _, _, _, _, _, _] Lr)).drop_ 2, hC, q1, q2, q3⟩
  clear M hC q1 q2 q3
  simp [results, Try.results57, h6, h7, c6, c7, go_sem]
theorem run_panic {S : Sys} {A : Option Addr} {c : Nat} {R : Option Addr} {d : Nat} {y : Ly} {Lr : List Ent} {X : RunP} {a : Act} (hd : a.defers = [{ target := Target.fn (Fn.func 89) #[.pointer (some ⟨e6, 0, none⟩), .pointer (some ⟨e7, 0, none⟩)], args := #[] }])
    (h6 : a.tmps[6]? = some (.pointer (some ⟨e6, 0, none⟩))) (h7 : a.tmps[7]? = some (.pointer (some ⟨e7, 0, none⟩))) (h : InW w W S A c R d y ((e7, 22, #[Value.int .i64 0]) :: (e6, 3, #[Value.int .i64 0]) :: Lr) X.P) (h3 : X.fin = 3) :
    bodyPostD Try.prog Try.f57 (EndR w S A c R d y Lr X) (.panic [{ v := .iface 22 (.int .i64 X.fault), recovered := false }]) a W := by
  unfold bodyPostD
  simp only [hd]
  obtain ⟨gw, cw, cur, evs, hv, M, hC, q1, q2, q3⟩ := h
  refine leaves_cons (f := 89) (args := #[.pointer (some ⟨e6, 0, none⟩), .pointer (some ⟨e7, 0, none⟩)]) (by simp) (by simp [go_sem]) ?_
  refine (catch_panicking X.fault [] 8 7 M rfl rfl (by decide)).mono ?_
  rintro e u' w'' ⟨rfl, rfl, M⟩
  have c6 := (M.get 8 rfl).cell 0
  have c7 := (M.get 7 rfl).cell 0
  refine ⟨_, ?_, rfl, gw, cw, cur, evs, hv, (M.perm (List.perm_append_comm_assoc [_, _] [_, _, _, _, _, _, _] Lr)).drop_ 2, hC, q1, q2, q3⟩
  clear M hC q1 q2 q3
  simp [results, Try.results57, h6, h7, c6, c7, go_sem]
  exact h3.symm
set_option maxRecDepth 100000 in
set_option maxHeartbeats 4000000 in
theorem run_any {S : Sys} {A : Option Addr} {c : Nat} {R : Option Addr} {d : Nat} {y : Ly} {Lr : List Ent} {picks : List Int} {pv : Value} (h : InW w W S A c R d y Lr begunP) (hS : SysIn w S A c R d) (hvd : validB S = true) (hlk : S.lk = (y.lk : Int)) (hgr : S.gr = (y.gr : Int)) (hce : S.ce = (y.ce : Int)) (hp : IntL w pv picks) :
    Calls Try.prog 57 #[.pointer (some ⟨y.wp, 0, none⟩), pv, .func (.func 58) #[] #[]] W (EndR w S A c R d y Lr (playP S picks)) := by
  have hmf : ∀ (fn : Fn) (first cap : Array Value) (w : World), (Instr.makeFunc fn first cap).run Try.prog w = .ok (.func fn first cap) w := fun _ _ _ _ => rfl
  obtain ⟨Ap, cp, rfl, hpc⟩ := hp
  have HP := Lib.hid hpc
  have HS := Lib.hid hS
  have HV := Lib.hid hvd
  have HY := Lib.hid (And.intro hlk (And.intro hgr hce))
  have h0 : (0 : Nat) < S.np := by
    have := ((headB_iff S).1 ((validB_iff S).1 hvd).1).1
    omega
  have HR0 := Lib.hid (show RInv S begunP from fun k _ => h0)
  have HX0 := Lib.hid (show runP S picks 40001 0 begunP = playP S picks from rfl)
  generalize playP S picks = X at *
  obtain ⟨gw, cw, cur, evs, hv, M, hC, q1, q2, q3⟩ := h
  have HC := Lib.hid (And.intro hC (And.intro q1 (And.intro q2 q3)))
  clear hpc hS hvd hlk hgr hce hC q1 q2 q3 h0
  go_enter_defers Try.func57, Try.ntmps57
  go_wp2_with (first
    | go_big_skip
    | (refine om_alloc1 6 (.int .i64 0) M rfl rfl rfl (fun _ => by kernel_rfl) rfl ?_; clear M; intro V e6 M; simp only [Act.put, List.setIfInBounds_toArray, List.set_cons_zero, List.set_cons_succ])
    | (refine om_alloc1 7 (.int .i64 0) M rfl rfl rfl (fun _ => by kernel_rfl) rfl ?_; clear M; intro V e7 M; simp only [Act.put, List.setIfInBounds_toArray, List.set_cons_zero, List.set_cons_succ]))
  have H0 : InW w V S A c R d y ((e7, 22, #[Value.int .i64 0]) :: (e6, 3, #[Value.int .i64 0]) :: Lr) begunP := ⟨gw, cw, cur, evs, hv, M.perm (List.perm_append_comm_assoc [_, _, _, _, _, _, _] [_, _] Lr), HC.out.1, HC.out.2.1, HC.out.2.2.1, HC.out.2.2.2⟩
  clear M HC
  go_loopw [8] (fun i wr => ∃ t P, i = .int .i64 (t : Nat) ∧ t ≤ 40000 ∧ InW w wr S A c R d y ((e7, 22, #[Value.int .i64 0]) :: (e6, 3, #[Value.int .i64 0]) :: Lr) P ∧ RInv S P ∧ P.ev.length = t ∧ P.n ≤ t + 1 ∧ (∀ c, (P.held c).length ≤ t) ∧ runP S picks (40001 - t) t P = X) (fun i _ => 40001 - (intOf i).toNat)
  case atStart => exact ⟨0, begunP, rfl, by omega, H0, HR0.out, rfl, Nat.le_refl _, fun c => Nat.le_refl _, HX0.out⟩
  case round =>
    clear H0 HR0 HX0
    obtain ⟨t, P, rfl, ht, H, hR, hev, hnn, hheld, hrun⟩ := hrel
    have HH := Lib.hid H
    obtain ⟨gw, cw, cur, evs, hv, M, hC, q1, q2, q3⟩ := H
    have HSE := Lib.hid (show Sees w.heap.size wr S A c R d y P gw cw cur evs hv from ⟨M.get 0 rfl, M.get 1 rfl, M.get 2 rfl, M.get 3 rfl, M.get 4 rfl, M.get 6 rfl, HS.out.kept M.own.keep, hC, M.hr⟩)
    have HRD := Lib.hid (ready_any HSE.out HV.out hR HY.out.1 HY.out.2.1 (by omega))
    have hlen : (readyI S P P.n).length = (readyN S P P.n).length := by simp [readyI]
    have HLEN := Lib.hid (readyI_length S P P.n)
    have HRU := Lib.hid hrun
    have HRI := Lib.hid hR
    have HEV := Lib.hid (And.intro hev (And.intro hnn hheld))
    have HQ := Lib.hid (And.intro hC (And.intro q1 (And.intro q2 q3)))
    have HT := Lib.hid ht
    have g0 : (0 : Int) ≤ t := by omega
    have e40 : 40001 - t = (40000 - t) + 1 := by omega
    clear hC q1 q2 q3 hR hrun hnn hev hheld
    by_cases hend : endedN S P P.n = true
    · have HXX := Lib.hid (show X = ⟨1, 0, P⟩ by rw [← HRU.out, e40]; unfold runP; simp [hend])
      rw [hend] at HRD
      clear hend
      go_wp2_with (first
        | go_big_skip
        | (go_at_call 90; refine HRD.out.mono ?_; rintro e V ⟨⟨v, rfl, hMi⟩, K⟩; replace M := M.keeps K; obtain ⟨Al, cl, rfl, hl⟩ := hMi.list; have HL := Lib.hid hl; clear hl hMi K)
        | (refine at_store (.tmp 6) (.const (.int .i64 1)) rfl ?_; refine om_store 8 0 (.int .i64 1) (.tmp 6) (.const (.int .i64 1)) M rfl rfl rfl rfl rfl rfl (by decide) rfl rfl (by kernel_rfl) rfl ?_; clear M; intro V M; simp only [List.set_cons_zero, List.set_cons_succ] at M)
        | (refine at_store (.tmp 7) (.const (.int .i64 0)) rfl ?_; refine om_store 7 0 (.int .i64 0) (.tmp 7) (.const (.int .i64 0)) M rfl rfl rfl rfl rfl rfl (by decide) rfl rfl (by kernel_rfl) rfl ?_; clear M; intro V M; simp only [List.set_cons_zero, List.set_cons_succ] at M))
      refine run_door rfl rfl rfl ?_
      rw [HXX.out]
      exact ⟨gw, cw, cur, evs, hv, M, HQ.out.1, HQ.out.2.1, HQ.out.2.2.1, HQ.out.2.2.2⟩
    · have hend : endedN S P P.n = false := by simpa using hend
      have HEN := Lib.hid hend
      rw [hend] at HRD
      clear hend
      by_cases h4 : 40000 ≤ t
      · have HXX := Lib.hid (show X = ⟨4, 0, P⟩ by rw [← HRU.out, e40]; unfold runP; simp [HEN.out, h4])
        have g1 : (40000 : Int) ≤ t := by omega
        clear h4
        go_wp2_with (first
          | go_big_skip
          | (go_at_call 90; refine HRD.out.mono ?_; rintro e V ⟨⟨v, rfl, hMi⟩, K⟩; replace M := M.keeps K; obtain ⟨Al, cl, rfl, hl⟩ := hMi.list; have HL := Lib.hid hl; clear hl hMi K)
          | (refine at_store (.tmp 6) (.const (.int .i64 4)) rfl ?_; refine om_store 8 0 (.int .i64 4) (.tmp 6) (.const (.int .i64 4)) M rfl rfl rfl rfl rfl rfl (by decide) rfl rfl (by kernel_rfl) rfl ?_; clear M; intro V M; simp only [List.set_cons_zero, List.set_cons_succ] at M)
          | (refine at_store (.tmp 7) (.const (.int .i64 0)) rfl ?_; refine om_store 7 0 (.int .i64 0) (.tmp 7) (.const (.int .i64 0)) M rfl rfl rfl rfl rfl rfl (by decide) rfl rfl (by kernel_rfl) rfl ?_; clear M; intro V M; simp only [List.set_cons_zero, List.set_cons_succ] at M))
        refine run_door rfl rfl rfl ?_
        rw [HXX.out]
        exact ⟨gw, cw, cur, evs, hv, M, HQ.out.1, HQ.out.2.1, HQ.out.2.2.1, HQ.out.2.2.2⟩
      · have g1 : decide ((40000 : Int) ≤ t) = false := by simp; omega
        have HH4 := Lib.hid h4
        clear h4
        by_cases hr0 : readyN S P P.n = []
        · have HXX := Lib.hid (show X = ⟨2, 0, P⟩ by rw [← HRU.out, e40]; unfold runP; simp [HEN.out, HH4.out, hr0])
          rw [show readyI S P P.n = [] by simp [readyI, hr0]] at HRD
          clear hr0 HLEN hlen
          go_wp2_with (first
            | go_big_skip
            | (go_at_call 90; refine HRD.out.mono ?_; rintro e V ⟨⟨v, rfl, hMi⟩, K⟩; replace M := M.keeps K; obtain ⟨Al, cl, rfl, hl⟩ := hMi.list; have HL := Lib.hid hl; clear hl hMi K)
            | (refine at_store (.tmp 6) (.const (.int .i64 2)) rfl ?_; refine om_store 8 0 (.int .i64 2) (.tmp 6) (.const (.int .i64 2)) M rfl rfl rfl rfl rfl rfl (by decide) rfl rfl (by kernel_rfl) rfl ?_; clear M; intro V M; simp only [List.set_cons_zero, List.set_cons_succ] at M)
            | (refine at_store (.tmp 7) (.const (.int .i64 0)) rfl ?_; refine om_store 7 0 (.int .i64 0) (.tmp 7) (.const (.int .i64 0)) M rfl rfl rfl rfl rfl rfl (by decide) rfl rfl (by kernel_rfl) rfl ?_; clear M; intro V M; simp only [List.set_cons_zero, List.set_cons_succ] at M))
          refine run_door rfl rfl rfl ?_
          rw [HXX.out]
          exact ⟨gw, cw, cur, evs, hv, M, HQ.out.1, HQ.out.2.1, HQ.out.2.2.1, HQ.out.2.2.2⟩
        · obtain ⟨hk, f, hI, hcan⟩ := picked S P picks t hr0
          have hm0 : 0 < (readyN S P P.n).length := List.length_pos_iff.2 hr0
          have hpl := pickP_lt picks t _ hm0
          have HXX := Lib.hid (show X = (if (stepP S P ((readyN S P P.n).getD (pickP picks t (readyN S P P.n).length) 0) f).2 = 0 then runP S picks (40000 - t) (t + 1) (stepP S P ((readyN S P P.n).getD (pickP picks t (readyN S P P.n).length) 0) f).1 else ⟨3, (stepP S P ((readyN S P P.n).getD (pickP picks t (readyN S P P.n).length) 0) f).2, (stepP S P ((readyN S P P.n).getD (pickP picks t (readyN S P P.n).length) 0) f).1⟩) by rw [← HRU.out, e40]; conv => lhs; unfold runP; simp only [HEN.out, HH4.out, hr0, hI, if_false, Bool.false_eq_true])
          have hgk : (readyI S P P.n).getD (pickP picks t (readyN S P P.n).length) 0 = (((readyN S P P.n).getD (pickP picks t (readyN S P P.n).length) 0 : Nat) : Int) := by
            unfold readyI
            rw [List.getD_eq_getElem?_getD, List.getD_eq_getElem?_getD, List.getElem?_map, List.getElem?_eq_getElem hpl]
            rfl
          have hev1 : (stepP S P ((readyN S P P.n).getD (pickP picks t (readyN S P P.n).length) 0) f).1.ev.length = t + 1 := by
            obtain ⟨e, he⟩ := stepP_ev S P ((readyN S P P.n).getD (pickP picks t (readyN S P P.n).length) 0) f
            rw [he, List.length_append, HEV.out.1]
            rfl
          have hsm := stepP_small S P ((readyN S P P.n).getD (pickP picks t (readyN S P P.n).length) 0) f
          have hri := stepP_rinv S P _ f HRI.out hk (right_of HV.out (HRI.out _ hk) hI)
          have hpk : ∀ x, picks[t]? = some x → (wrap64 (x.tmod ((readyN S P P.n).length : Int) + ((readyN S P P.n).length : Int))).tmod ((readyN S P P.n).length : Int) = ((pickP picks t (readyN S P P.n).length : Nat) : Int) := fun x hx => by
            rw [mod_twice' x _ hm0 (by have := HLEN.out; have := HEV.out; omega)]
            unfold pickP
            rw [hx]
            have := Int.emod_nonneg x (b := ((readyN S P P.n).length : Int)) (by omega)
            show x % _ = ((x % _).toNat : Int)
            omega
          have hp0 : picks.length ≤ t → pickP picks t (readyN S P P.n).length = 0 := fun h => by
            unfold pickP
            rw [List.getElem?_eq_none h]
          generalize (readyN S P P.n).getD (pickP picks t (readyN S P P.n).length) 0 = k at *
          generalize pickP picks t (readyN S P P.n).length = p at *
          rw [← hlen] at hm0 hpl hpk
          generalize readyI S P P.n = rl at *
          clear hlen hr0 HRU
          have HST := Lib.hid (fun V (H : InW w V S A c R d y ((e7, 22, #[Value.int .i64 0]) :: (e6, 3, #[Value.int .i64 0]) :: Lr) P) => step_any H HS.out HV.out HRI.out hk hI HY.out.1 HY.out.2.1 HY.out.2.2 (by have := HEV.out.1; omega) (fun c => by have := HEV.out.2.2 c; omega))
          have HNX := Lib.hid (And.intro hev1 (And.intro hsm hri))
          have HPK := Lib.hid hpk
          have HP0 := Lib.hid hp0
          have HGK := Lib.hid hgk
          clear hk hI hcan hgk hev1 hsm hri hpk hp0
          generalize stepP S P k f = sp at HST HNX HXX
          generalize hm : rl.length = m at *
          have g2 : ¬ ((m : Int) = 0) := by omega
          have g5 : (p : Int) < m := by omega
          have g6 : (0 : Int) ≤ p := by omega
          have HM0 := Lib.hid (And.intro hm hpl)
          clear hm0 hpl hm
          by_cases hz : sp.2 = 0
          · have HST0 := Lib.hid (show ∀ V, InW w V S A c R d y ((e7, 22, #[Value.int .i64 0]) :: (e6, 3, #[Value.int .i64 0]) :: Lr) P → Calls Try.prog 91 #[.pointer (some ⟨y.wp, 0, none⟩), .int .i64 (k : Int)] V fun e W' => e = .returned (.tuple #[]) ∧ InW w W' S A c R d y ((e7, 22, #[Value.int .i64 0]) :: (e6, 3, #[Value.int .i64 0]) :: Lr) sp.1 from fun V H => (HST.out V H).mono fun e W' h => ⟨by rw [h.2, hz]; rfl, h.1⟩)
            have HZ := Lib.hid (show X = runP S picks (40000 - t) (t + 1) sp.1 by rw [HXX.out, if_pos hz])
            clear hz
            by_cases htp : t < picks.length
            · have g7 : (t : Int) < picks.length := by omega
              obtain ⟨adp, rfl, hbp, hcp⟩ := HP.out (by omega)
              have hpx := HPK.out (picks.getD t 0) (by rw [List.getD_eq_getElem?_getD, List.getElem?_eq_getElem htp]; rfl)
              have HCP := Lib.hid (show ∀ V, Keeps w V [] → V.cell? (adp.add t) = some (.int .i64 (picks.getD t 0)) from fun V K => (K.cellAt (by rw [add_block]; exact hbp) (by simp)).trans (hcp t htp))
              generalize picks.getD t 0 = x at hpx HCP
              clear hbp hcp htp
              go_wp2_with (first
                | go_big_skip
                | (go_at_call 90; refine HRD.out.mono ?_; rintro e V ⟨⟨v, rfl, hMi⟩, K⟩; replace M := M.keeps K; obtain ⟨Al, cl, rfl, hl⟩ := hMi.list; obtain ⟨ad, rfl, hb, hc⟩ := hl (by have := HM0.out; omega); have ck : V.cell? (ad.add p) = some (.int .i64 (k : Int)) := (hc p (by have := HM0.out; omega)).trans (by rw [HGK.out]); rw [HM0.out.1]; clear hl hMi K hb hc; have cP := HCP.out V M.own.keep)
                | (go_at_call 58; refine (more_any _).mono ?_; rintro e V' ⟨rfl, rfl⟩)
                | (go_at_call 91; refine (HST0.out _ ⟨gw, cw, cur, evs, hv, M, HQ.out.1, HQ.out.2.1, HQ.out.2.2.1, HQ.out.2.2.2⟩).mono ?_; rintro e V' ⟨rfl, H'⟩; have HI' := Lib.hid H'; clear H' M ck))
              go_roundw
              case rel => exact ⟨t + 1, sp.1, by go_num, by have := HH4.out; omega, HI'.out, HNX.out.2.2, HNX.out.1, by have := HNX.out.2.1.1; have := HEV.out; omega, fun c => by have := HNX.out.2.1.2 c; have := HEV.out.2.2 c; omega, by rw [show 40001 - (t + 1) = 40000 - t by omega]; exact HZ.out.symm⟩
              case measure => (simp [intOf] <;> omega)
            · have g7 : ¬ (t : Int) < picks.length := by omega
              have hp00 := HP0.out (by omega)
              subst hp00
              clear htp
              go_wp2_with (first
                | go_big_skip
                | (go_at_call 90; refine HRD.out.mono ?_; rintro e V ⟨⟨v, rfl, hMi⟩, K⟩; replace M := M.keeps K; obtain ⟨Al, cl, rfl, hl⟩ := hMi.list; obtain ⟨ad, rfl, hb, hc⟩ := hl (by have := HM0.out; omega); have ck : V.cell? ad = some (.int .i64 (k : Int)) := (by have h0 := (hc 0 (by have := HM0.out; omega)).trans (by rw [HGK.out]); rwa [Addr.add_zero'] at h0); rw [HM0.out.1]; clear hl hMi K hb hc)
                | (go_at_call 58; refine (more_any _).mono ?_; rintro e V' ⟨rfl, rfl⟩)
                | (go_at_call 91; refine (HST0.out _ ⟨gw, cw, cur, evs, hv, M, HQ.out.1, HQ.out.2.1, HQ.out.2.2.1, HQ.out.2.2.2⟩).mono ?_; rintro e V' ⟨rfl, H'⟩; have HI' := Lib.hid H'; clear H' M ck))
              go_roundw
              case rel => exact ⟨t + 1, sp.1, by go_num, by have := HH4.out; omega, HI'.out, HNX.out.2.2, HNX.out.1, by have := HNX.out.2.1.1; have := HEV.out; omega, fun c => by have := HNX.out.2.1.2 c; have := HEV.out.2.2 c; omega, by rw [show 40001 - (t + 1) = 40000 - t by omega]; exact HZ.out.symm⟩
              case measure => (simp [intOf] <;> omega)
          · have HST0 := Lib.hid (show ∀ V, InW w V S A c R d y ((e7, 22, #[Value.int .i64 0]) :: (e6, 3, #[Value.int .i64 0]) :: Lr) P → Calls Try.prog 91 #[.pointer (some ⟨y.wp, 0, none⟩), .int .i64 (k : Int)] V fun e W' => e = .panicked [{ v := .iface 22 (.int .i64 sp.2), recovered := false }] ∧ InW w W' S A c R d y ((e7, 22, #[Value.int .i64 0]) :: (e6, 3, #[Value.int .i64 0]) :: Lr) sp.1 from fun V H => (HST.out V H).mono fun e W' h => ⟨by rw [h.2]; unfold stepEnd; rw [if_neg hz], h.1⟩)
            have HZ := Lib.hid (show X = ⟨3, sp.2, sp.1⟩ by rw [HXX.out, if_neg hz])
            clear hz
            by_cases htp : t < picks.length
            · have g7 : (t : Int) < picks.length := by omega
              obtain ⟨adp, rfl, hbp, hcp⟩ := HP.out (by omega)
              have hpx := HPK.out (picks.getD t 0) (by rw [List.getD_eq_getElem?_getD, List.getElem?_eq_getElem htp]; rfl)
              have HCP := Lib.hid (show ∀ V, Keeps w V [] → V.cell? (adp.add t) = some (.int .i64 (picks.getD t 0)) from fun V K => (K.cellAt (by rw [add_block]; exact hbp) (by simp)).trans (hcp t htp))
              generalize picks.getD t 0 = x at hpx HCP
              clear hbp hcp htp
              go_wp2_with (first
                | go_big_skip
                | (go_at_call 90; refine HRD.out.mono ?_; rintro e V ⟨⟨v, rfl, hMi⟩, K⟩; replace M := M.keeps K; obtain ⟨Al, cl, rfl, hl⟩ := hMi.list; obtain ⟨ad, rfl, hb, hc⟩ := hl (by have := HM0.out; omega); have ck : V.cell? (ad.add p) = some (.int .i64 (k : Int)) := (hc p (by have := HM0.out; omega)).trans (by rw [HGK.out]); rw [HM0.out.1]; clear hl hMi K hb hc; have cP := HCP.out V M.own.keep)
                | (go_at_call 58; refine (more_any _).mono ?_; rintro e V' ⟨rfl, rfl⟩)
                | (go_at_call 91; refine (HST0.out _ ⟨gw, cw, cur, evs, hv, M, HQ.out.1, HQ.out.2.1, HQ.out.2.2.1, HQ.out.2.2.2⟩).mono ?_; rintro e V' ⟨rfl, H'⟩; have HI' := Lib.hid H'; clear H' M ck))
              rw [HZ.out]
              exact run_panic (X := ⟨3, sp.2, sp.1⟩) rfl rfl rfl HI'.out rfl
            · have g7 : ¬ (t : Int) < picks.length := by omega
              have hp00 := HP0.out (by omega)
              subst hp00
              clear htp
              go_wp2_with (first
                | go_big_skip
                | (go_at_call 90; refine HRD.out.mono ?_; rintro e V ⟨⟨v, rfl, hMi⟩, K⟩; replace M := M.keeps K; obtain ⟨Al, cl, rfl, hl⟩ := hMi.list; obtain ⟨ad, rfl, hb, hc⟩ := hl (by have := HM0.out; omega); have ck : V.cell? ad = some (.int .i64 (k : Int)) := (by have h0 := (hc 0 (by have := HM0.out; omega)).trans (by rw [HGK.out]); rwa [Addr.add_zero'] at h0); rw [HM0.out.1]; clear hl hMi K hb hc)
                | (go_at_call 58; refine (more_any _).mono ?_; rintro e V' ⟨rfl, rfl⟩)
                | (go_at_call 91; refine (HST0.out _ ⟨gw, cw, cur, evs, hv, M, HQ.out.1, HQ.out.2.1, HQ.out.2.2.1, HQ.out.2.2.2⟩).mono ?_; rintro e V' ⟨rfl, H'⟩; have HI' := Lib.hid H'; clear H' M ck))
              rw [HZ.out]
              exact run_panic (X := ⟨3, sp.2, sp.1⟩) rfl rfl rfl HI'.out rfl
end
end Go.Proofs.Ytakmcpadkanggaa

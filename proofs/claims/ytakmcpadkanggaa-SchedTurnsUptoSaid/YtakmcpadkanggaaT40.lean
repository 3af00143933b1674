/-
  What comes of a system (sched.Play).
-/
import Derived.Test.YtakmcpadkanggaaT38
import Derived.Test.YtakmcpadkanggaaT39
namespace Go.Proofs.Ytakmcpadkanggaa
open Go.RowKit Go.Maps Go.Deep

/-- A run as it is handed out. -/
def runC (fin fault : Int) (evs : Value) (n : Nat) (cells : Value) : Array Value := #[.int .i64 fin, .int .i64 fault, evs, .int .i64 n, cells]
/-- Where what a run tells lies. -/
structure RunAt (w W : World) (S : Sys) (X : RunP) (evs cells : Value) : Prop where
  keep : Keeps w W []
  evr : W.ownsRow w.heap.size 37 5 evs X.P.ev.length (evL (lE X.P.ev) X.P.ev.length)
  cell : ∃ bc m, cells = .slice (some ⟨bc, 0, none⟩) m m ∧ S.ce = (m : Int) ∧ Blk W bc 3 (arrI m X.P.ce) ∧ w.heap.size ≤ bc
def PlayPost (w : World) (S : Sys) (picks : List Int) (e : Ending) (W : World) : Prop :=
  ∃ evs cells, e = .returned (.tuple #[.agg (runC (playP S picks).fin (playP S picks).fault evs (playP S picks).P.n cells), .int .i64 0]) ∧ RunAt w W S (playP S picks) evs cells
theorem Own.perm {w W : World} {L L' : List Ent} (O : Own w W [] L) (h : L'.Perm L) : Own w W [] L' := ⟨O.keep, fun q hq => O.blk q (h.mem_iff.1 hq), fun q hq => O.new q (h.mem_iff.1 hq), (h.map _).nodup_iff.2 O.nd⟩
section
variable {w W : World} {S : Sys} {A : Option Addr} {c : Nat} {R : Option Addr} {d : Nat} {picks : List Int} {pv : Value}
theorem InW.start {y : Ly} {Lr : List Ent} {gw : Nat} (O : Own w W [] ((y.wp, 110, wpC y S.nr gw 1 1 (.slice none 0 0)) :: (gw, 174, rnC ⟨0, 0, fun _ => 0⟩) :: (y.bp, 186, pipesA S.nr (fun _ => .slice none 0 0) (fun _ => false)) :: (y.bl, 4, arrB y.lk fun _ => false) :: (y.bg, 3, arrI y.gr fun _ => 0) :: (y.bc, 3, arrI y.ce fun _ => 0) :: (y.ps, 27, sysV S A c R d) :: Lr)) : InW w W S A c R d y Lr begunP := by
  refine ⟨gw, 1, rnC ⟨0, 0, fun _ => 0⟩, .slice none 0 0, fun _ => .slice none 0 0, ⟨O, World.ownsRow_nil _ _ _ _, fun c _ => HRow.nil _ _, fun q _ h => (by cases h), fun c _ q _ h => (by cases h), fun c c' _ _ _ g h => (by cases h)⟩, fun k hk f hf => ?_, Nat.le_refl _, by simp [maxLen], rfl⟩
  have hk1 : k < 1 := hk
  obtain rfl : k = 0 := by omega
  simp [begunP]
set_option maxRecDepth 100000 in
theorem play_bad (hS : SysIn w S A c R d) (hv : validB S = false) : Calls Try.prog 25 #[.agg (sysV S A c R d), pv] w fun e w' => e = .returned (.tuple #[.agg #[Value.int .i64 0, .int .i64 0, .slice none 0 0, .int .i64 0, .slice none 0 0], .int .i64 130]) ∧ Keeps w w' [] := by
  have O := Own.start w []
  have HV := Lib.hid (fun u (k : Keeps w u []) => show Calls Try.prog 21 #[.agg (sysV S A c R d)] u fun e w' => e = .returned (.int .i64 130) ∧ Keeps u w' [] from by have := valid_any (hS.kept k); rwa [validE_no hv] at this)
  clear hS hv
  go_enter Try.func25, Try.ntmps25
  go_wp2_with (first
    | go_big_skip
    | (refine own_box 2 (sysV S A c R d) O rfl rfl rfl rfl ?_; clear O; intro W ps O; simp only [Act.put, List.setIfInBounds_toArray, List.set_cons_zero, List.set_cons_succ])
    | (refine own_alloc 4 (#[Value.int .i64 0, .int .i64 0, .slice none 0 0, .int .i64 0, .slice none 0 0]) O rfl rfl rfl (fun _ => by kernel_rfl) ?_; clear O; intro W a4 O; simp only [Act.put, List.setIfInBounds_toArray, List.set_cons_zero, List.set_cons_succ])
    | (refine own_load 10 1 O rfl rfl rfl rfl rfl Try.underlying27 rfl (by kernel_rfl) ?_; simp only [Act.put, List.setIfInBounds_toArray, List.set_cons_zero, List.set_cons_succ])
    | (go_at_call 21; refine (HV.out _ O.keep).mono ?_; rintro e W ⟨rfl, K⟩; replace O := O.keeps K; clear K)
    | (refine wpList_const 14 (.agg #[Value.int .i64 0, .int .i64 0, .slice none 0 0, .int .i64 0, .slice none 0 0]) rfl rfl (fun _ => by kernel_rfl) ?_; simp only [Act.put, List.setIfInBounds_toArray, List.set_cons_zero, List.set_cons_succ])
    | (refine own_store_row 0 (.tmp 4) (.tmp 14) O rfl rfl rfl rfl rfl rfl (by kernel_rfl) (by rfl) (by decide) ?_; clear O; intro W O; simp only [List.set_cons_zero] at O))
  refine bodyPost_ret (v := .tuple #[.agg #[Value.int .i64 0, .int .i64 0, .slice none 0 0, .int .i64 0, .slice none 0 0], .int .i64 130]) (results_cell_tmp rfl _ _ a4 33 _ _ rfl (O.get 0 rfl) Try.underlying33 rfl (by kernel_rfl) _ rfl) rfl ⟨rfl, O.keep⟩
set_option maxRecDepth 100000 in
set_option maxHeartbeats 2000000 in
theorem play_good (hS : SysIn w S A c R d) (hv : validB S = true) (hp : IntL w pv picks) : Calls Try.prog 25 #[.agg (sysV S A c R d), pv] w (PlayPost w S picks) := by
  have O := Own.start w []
  have HV := Lib.hid (fun u (k : Keeps w u []) => show Calls Try.prog 21 #[.agg (sysV S A c R d)] u fun e w' => e = .returned (.int .i64 0) ∧ Keeps u w' [] from by have := valid_any (hS.kept k); rwa [validE_yes hv] at this)
  have hh := (headB_iff S).1 ((validB_iff S).1 hv).1
  have h3 := hh.2.2.2.1
  have h4 := hh.2.2.2.2.1
  have h5 := hh.2.2.2.2.2
  rw [shB_iff] at h3 h4 h5
  have hnr : S.nr ≤ 64 := hh.2.2.1
  obtain ⟨gr, hgr⟩ : ∃ m : Nat, S.gr = (m : Int) := ⟨S.gr.toNat, by omega⟩
  obtain ⟨lk, hlk⟩ : ∃ m : Nat, S.lk = (m : Int) := ⟨S.lk.toNat, by omega⟩
  obtain ⟨ce, hce⟩ : ∃ m : Nat, S.ce = (m : Int) := ⟨S.ce.toNat, by omega⟩
  have HB := Lib.hid (fun u ps (hB : Blk u ps 27 (sysV S A c R d)) => begun_any hB (by omega) hlk hgr hce (by omega) (by omega) (by omega))
  have HR := Lib.hid (fun u (y : Ly) (Lr : List Ent) (h : InW w u S A c R d y Lr begunP) (e1 : y.lk = lk) (e2 : y.gr = gr) (e3 : y.ce = ce) => run_any h hS hv (by rw [e1]; exact hlk) (by rw [e2]; exact hgr) (by rw [e3]; exact hce) hp)
  have HC := Lib.hid hce
  clear hS hv hp hh h3 h4 h5 hnr hgr hlk hce
  unfold PlayPost
  generalize playP S picks = X at *
  go_enter Try.func25, Try.ntmps25
  go_wp2_with (first
    | go_big_skip
    | (refine own_box 2 (sysV S A c R d) O rfl rfl rfl rfl ?_; clear O; intro W ps O; simp only [Act.put, List.setIfInBounds_toArray, List.set_cons_zero, List.set_cons_succ])
    | (refine own_alloc 4 (#[Value.int .i64 0, .int .i64 0, .slice none 0 0, .int .i64 0, .slice none 0 0]) O rfl rfl rfl (fun _ => by kernel_rfl) ?_; clear O; intro W a4 O; simp only [Act.put, List.setIfInBounds_toArray, List.set_cons_zero, List.set_cons_succ])
    | (refine own_load 10 1 O rfl rfl rfl rfl rfl Try.underlying27 rfl (by kernel_rfl) ?_; simp only [Act.put, List.setIfInBounds_toArray, List.set_cons_zero, List.set_cons_succ])
    | (go_at_call 21; refine (HV.out _ O.keep).mono ?_; rintro e W ⟨rfl, K⟩; replace O := O.keeps K; clear K)
    | (go_at_call 56; refine (HB.out _ ps (O.get 1 rfl)).mono ?_; rintro e W ⟨wp, gw, bp, bl, bg, bc, rfl, O1⟩; have HI := Lib.hid (InW.start (y := ⟨ps, wp, bp, bl, bg, bc, lk, gr, ce⟩) (Lr := [(a4, 33, #[Value.int .i64 0, .int .i64 0, .slice none 0 0, .int .i64 0, .slice none 0 0])]) ((O.join O1).perm (List.Perm.append_left [_, _, _, _, _, _] (List.Perm.swap _ _ [])))); clear O O1)
    | (go_at_call 57; refine (HR.out _ _ _ HI.out rfl rfl rfl).mono ?_; rintro e W ⟨rfl, HJ⟩; have HK := Lib.hid HJ; clear HJ HI))
  obtain ⟨gw, cw, cur, evs, hv, M, hC, q1, q2, q3⟩ := HK.out
  obtain ⟨Ae, ne, cE, rfl⟩ : ∃ A n c, evs = .slice A n c := by
    rcases M.evr.2 with ⟨h, _⟩ | ⟨g, cap, cur, h, _⟩
    · exact ⟨_, _, _, h⟩
    · exact ⟨_, _, _, h⟩
  have cw' : ∀ (p : Later W) i, p.1.cell? ⟨wp, i, none⟩ = #[Value.pointer (some ⟨ps, 0, none⟩), .slice (some ⟨gw, 0, none⟩) X.P.n cw, .slice (some ⟨bp, 0, none⟩) S.nr S.nr, .slice (some ⟨bl, 0, none⟩) lk lk, .slice (some ⟨bg, 0, none⟩) gr gr, .slice (some ⟨bc, 0, none⟩) ce ce, .slice Ae ne cE][i]? := Later.cell (M.get 0 rfl)
  clear HV HB HR HK hC q1 q2 q3
  refine wp_quiet_tail_later 15 (by kernel_rfl) (by kernel_rfl) ?_
  simp only [List.take, List.drop]
  repeat (first
    | go_big_quiet_skip
    | go_big_quiet_step (fail))
  refine wpQuiet_nil ?_
  intro _ hw
  obtain ⟨p', rfl⟩ := hw
  replace M := M.keeps p'.2
  clear cw'
  generalize p'.1 = V at M ⊢
  go_wp2_with (first
    | (refine wpList_const 38 (.agg (runC X.fin X.fault (.slice Ae ne cE) X.P.n (.slice (some ⟨bc, 0, none⟩) ce ce))) rfl rfl (fun _ => by kernel_rfl) ?_; simp only [Act.put, List.setIfInBounds_toArray, List.set_cons_zero, List.set_cons_succ])
    | (refine om_store_row 7 (.tmp 4) (.tmp 38) (cs' := runC X.fin X.fault (.slice Ae ne cE) X.P.n (.slice (some ⟨bc, 0, none⟩) ce ce)) M rfl rfl rfl rfl rfl rfl (by kernel_rfl) (by rfl) ?_ ?_; rotate_left; clear M; intro V M; simp only [List.set_cons_zero, List.set_cons_succ] at M)
    | go_big_skip)
  · refine bodyPost_ret (v := .tuple #[.agg (runC X.fin X.fault (.slice Ae ne cE) X.P.n (.slice (some ⟨bc, 0, none⟩) ce ce)), .int .i64 0]) (results_cell_tmp rfl _ _ a4 33 _ _ rfl (M.get 7 rfl) Try.underlying33 rfl (by kernel_rfl) _ rfl) rfl ⟨_, _, rfl, M.own.keep, M.evr, bc, ce, rfl, HC.out, M.get 5 rfl, ?_⟩
    rcases Nat.lt_or_ge bc w.heap.size with h | h
    · exact absurd (M.own.new _ (List.mem_of_getElem? (show _ = some _ from (rfl : _[5]? = _))) h) (by simp)
    · exact h
  · intro v hv'
    simp [runC] at hv'
    rcases hv' with rfl | rfl | rfl | rfl | rfl <;> rfl
end
end Go.Proofs.Ytakmcpadkanggaa

/-
  What one event leaves behind: (*lay).next of trace.
-/
import Derived.Test.YtakmcpadkanggaaT8
import Derived.Test.YtakmcpadkanggaaLite
namespace Go.Proofs.Ytakmcpadkanggaa
open Go.RowKit Go.Maps

def layV (S : Sys) (A : Option Addr) (c : Nat) (R : Option Addr) (d : Nat) (r : Int) (bh bs bt bu : Nat) : Array Value := #[.slice A S.np c, .slice R S.nr d, .int .i64 S.gr, .int .i64 S.lk, .int .i64 S.ce, .int .i64 r, .map (some bh), .map (some bs), .map (some bt), .map (some bu)]
/-- The struct and its four maps. -/
structure LayAt (W : World) (S : Sys) (A : Option Addr) (c : Nat) (R : Option Addr) (d y bh bs bt bu n : Nat) (st : St) : Prop where
  y : Blk W y 156 (layV S A c R d st.r bh bs bt bu)
  h : MapB W bh n st.held
  s : MapI W bs n st.sent
  t : MapI W bt n st.took
  u : MapB W bu n st.shut
  ne : bh ≠ bs ∧ bh ≠ bt ∧ bh ≠ bu ∧ bs ≠ bt ∧ bs ≠ bu ∧ bt ≠ bu
section
variable {w u W : World} {S : Sys} {A : Option Addr} {c : Nat} {R : Option Addr} {d y bh bs bt bu n m : Nat} {st : St}
theorem MapI.mono {b : Nat} {f : Int → Int} (h : MapI w b n f) (k : n ≤ m) : MapI w b m f := by obtain ⟨D, h1, h2⟩ := h; exact ⟨D, h1.mono k, h2⟩
theorem MapB.mono {b : Nat} {f : Int → Bool} (h : MapB w b n f) (k : n ≤ m) : MapB w b m f := by obtain ⟨D, h1, h2⟩ := h; exact ⟨D, h1.mono k, h2⟩
theorem LayAt.kept (l : LayAt w S A c R d y bh bs bt bu n st) (k : Keeps w u []) : LayAt u S A c R d y bh bs bt bu n st :=
  ⟨l.y.keeps k (by simp), l.h.keeps k (by simp), l.s.keeps k (by simp), l.t.keeps k (by simp), l.u.keeps k (by simp), l.ne⟩
theorem LayAt.mono (l : LayAt w S A c R d y bh bs bt bu n st) (k : n ≤ m) : LayAt w S A c R d y bh bs bt bu m st := ⟨l.y, l.h.mono k, l.s.mono k, l.t.mono k, l.u.mono k, l.ne⟩
theorem LayAt.sysAt (l : LayAt w S A c R d y bh bs bt bu n st) (j : Nat) (hj : j < (sysV S A c R d).size) : w.cell? ((⟨y, 0, none⟩ : Addr).add j) = (sysV S A c R d)[j]? := by
  rw [add_zero_, l.y.cell]
  have hj' : j < 5 := hj
  match j, hj' with
  | 0, _ => rfl
  | 1, _ => rfl
  | 2, _ => rfl
  | 3, _ => rfl
  | 4, _ => rfl
theorem LayAt.yne (l : LayAt w S A c R d y bh bs bt bu n st) : y ≠ bh ∧ y ≠ bs ∧ y ≠ bt ∧ y ≠ bu := ⟨l.h.not_blk l.y, l.s.not_blk l.y, l.t.not_blk l.y, l.u.not_blk l.y⟩
theorem LayAt.setY (l : LayAt w S A c R d y bh bs bt bu n st) {r : Int} (k : Keeps w u [y]) (b : Blk u y 156 (layV S A c R d r bh bs bt bu)) : LayAt u S A c R d y bh bs bt bu n { st with r := r } := by
  obtain ⟨h1, h2, h3, h4⟩ := l.yne
  exact ⟨b, l.h.keeps k (by simpa using h1.symm), l.s.keeps k (by simpa using h2.symm), l.t.keeps k (by simpa using h3.symm), l.u.keeps k (by simpa using h4.symm), l.ne⟩
theorem LayAt.setH (l : LayAt w S A c R d y bh bs bt bu n st) {f : Int → Bool} (k : Keeps w u [bh]) (b : MapB u bh (n + 1) f) : LayAt u S A c R d y bh bs bt bu (n + 1) { st with held := f } := by
  obtain ⟨h1, h2, h3, h4⟩ := l.yne
  obtain ⟨n1, n2, n3, n4, n5, n6⟩ := l.ne
  exact ⟨l.y.keeps k (by simpa using h1), b, (l.s.keeps k (by simpa using n1.symm)).mono (by omega), (l.t.keeps k (by simpa using n2.symm)).mono (by omega), (l.u.keeps k (by simpa using n3.symm)).mono (by omega), l.ne⟩
theorem LayAt.setS (l : LayAt w S A c R d y bh bs bt bu n st) {f : Int → Int} (k : Keeps w u [bs]) (b : MapI u bs (n + 1) f) : LayAt u S A c R d y bh bs bt bu (n + 1) { st with sent := f } := by
  obtain ⟨h1, h2, h3, h4⟩ := l.yne
  obtain ⟨n1, n2, n3, n4, n5, n6⟩ := l.ne
  exact ⟨l.y.keeps k (by simpa using h2), (l.h.keeps k (by simpa using n1)).mono (by omega), b, (l.t.keeps k (by simpa using n4.symm)).mono (by omega), (l.u.keeps k (by simpa using n5.symm)).mono (by omega), l.ne⟩
theorem LayAt.setT (l : LayAt w S A c R d y bh bs bt bu n st) {f : Int → Int} (k : Keeps w u [bt]) (b : MapI u bt (n + 1) f) : LayAt u S A c R d y bh bs bt bu (n + 1) { st with took := f } := by
  obtain ⟨h1, h2, h3, h4⟩ := l.yne
  obtain ⟨n1, n2, n3, n4, n5, n6⟩ := l.ne
  exact ⟨l.y.keeps k (by simpa using h3), (l.h.keeps k (by simpa using n2)).mono (by omega), (l.s.keeps k (by simpa using n4)).mono (by omega), b, (l.u.keeps k (by simpa using n6.symm)).mono (by omega), l.ne⟩
theorem LayAt.setU (l : LayAt w S A c R d y bh bs bt bu n st) {f : Int → Bool} (k : Keeps w u [bu]) (b : MapB u bu (n + 1) f) : LayAt u S A c R d y bh bs bt bu (n + 1) { st with shut := f } := by
  obtain ⟨h1, h2, h3, h4⟩ := l.yne
  obtain ⟨n1, n2, n3, n4, n5, n6⟩ := l.ne
  exact ⟨l.y.keeps k (by simpa using h4), (l.h.keeps k (by simpa using n3)).mono (by omega), (l.s.keeps k (by simpa using n5)).mono (by omega), (l.t.keeps k (by simpa using n6)).mono (by omega), b, l.ne⟩
set_option maxRecDepth 10000 in
theorem look_eqI {b : Nat} {f : Int → Int} (m : MapI w b n f) (T : TypeId) (ht : Try.prog.underlying T = some (.map 3 3)) (k : Int) (hk : (Lit.int .i64 k).wf = true) : (Instr.lookup T (.map (some b)) (.int .i64 k) false).run Try.prog w = .ok (.int .i64 (f k)) w := by
  obtain ⟨D, h1, h2⟩ := m
  obtain ⟨x, hr, hat, _⟩ := h1.lookup_int key3 ht Try.underlying3 (zero3 w) (keyOf_int_mk Try.underlying3 hk)
  rw [h2] at hat
  injection hat with e
  injection e with _ e
  rw [hr, e]
set_option maxRecDepth 10000 in
theorem look_eqB {b : Nat} {f : Int → Bool} (m : MapB w b n f) (T : TypeId) (ht : Try.prog.underlying T = some (.map 3 4)) (k : Int) (hk : (Lit.int .i64 k).wf = true) : (Instr.lookup T (.map (some b)) (.int .i64 k) false).run Try.prog w = .ok (.bool (f k)) w := by
  obtain ⟨D, h1, h2⟩ := m
  obtain ⟨v, ps, hrun, hR⟩ := h1.lookup (e := 4) key3 ht (zero4 w) (plainElem_bool Try.underlying4 false) (keyOf_int_mk Try.underlying3 hk)
  rw [h2] at hR
  have hv : v = .bool (f k) := by
    unfold plainElem at hR
    rw [Try.underlying4] at hR
    cases v <;> simp at hR
    rw [hR.1]
  rw [hrun, hv]
end
/-- What next comes to. -/
def NextPost (S : Sys) (A : Option Addr) (c : Nat) (R : Option Addr) (d y bh bs bt bu n : Nat) (st : St) (e : Ev) (w : World) (x : Ending) (w' : World) : Prop :=
  x = .returned (.bool (okE S st e)) ∧ Keeps w w' [y, bh, bs, bt, bu] ∧ (okE S st e = true → LayAt w' S A c R d y bh bs bt bu (n + 1) (nextE st e))
theorem Keeps.wide {w u : World} {L L' : List Nat} (k : Keeps w u L) (h : ∀ b ∈ L, b ∈ L') : Keeps w u L' := ⟨k.os, k.tape, k.output, k.size, fun b hb hn => k.block b hb fun hm => hn (h b hm)⟩
section
variable {w : World} {S : Sys} {A : Option Addr} {c : Nat} {R : Option Addr} {d y bh bs bt bu n : Nat} {st : St}

set_option maxRecDepth 100000 in
set_option maxHeartbeats 1000000 in
theorem next_bad0 (e : Ev) (l : LayAt w S A c R d y bh bs bt bu n st)  (g0 : e.who < 0) : Calls Try.prog 92 #[.pointer (some ⟨y, 0, none⟩), .agg (evC e)] w (NextPost S A c R d y bh bs bt bu n st e w) := by
  have O := Own.start w []
  have HL := Lib.hid l
  clear l
  have q0 : decide (e.who < 0) = true := decide_eq_true (by omega)
  have HF := Lib.hid (show okE S st e = false by simp [okE, headE]; omega)
  unfold evC

  go_enter Try.func92, Try.ntmps92
  go_wp2_with (first
    | go_big_skip
    | (refine own_box 3 (#[Value.int .i64 e.who, .int .i64 e.op, .int .i64 e.a, .int .i64 e.v, .bool e.sh]) O rfl rfl rfl rfl ?_; clear O; intro W a3 O; simp only [Act.put, List.setIfInBounds_toArray, List.set_cons_zero, List.set_cons_succ]))
  have c3 := Later.cell (O.get 0 rfl)
  have cy : ∀ p : Later W, p.1.cell? ⟨y, 5, none⟩ = some (.int .i64 st.r) := fun p => (HL.out.kept (O.keep.trans p.2 (by simp))).y.cell 5
  refine wp_quiet_later (by kernel_rfl) (by kernel_rfl) ?_
  repeat (first
    | go_big_quiet_skip
    | go_big_quiet_step (fail))
  refine wpQuiet_nil ?_
  intro _ hw
  obtain ⟨p', rfl⟩ := hw
  replace O := O.keeps p'.2
  clear c3 cy
  generalize p'.1 = W at O ⊢
  go_wp2
  go_ret
  exact ⟨by rw [HF.out]; rfl, O.keep.wide (by simp), fun h => by rw [HF.out] at h; cases h⟩

set_option maxRecDepth 100000 in
set_option maxHeartbeats 1000000 in
theorem next_bad1 (e : Ev) (l : LayAt w S A c R d y bh bs bt bu n st) (g0 : ¬ e.who < 0) (g1 : st.r ≤ e.who) : Calls Try.prog 92 #[.pointer (some ⟨y, 0, none⟩), .agg (evC e)] w (NextPost S A c R d y bh bs bt bu n st e w) := by
  have O := Own.start w []
  have HL := Lib.hid l
  clear l
  have q0 : decide (e.who < 0) = false := decide_eq_false (by omega)
  have q1 : decide (st.r ≤ e.who) = true := decide_eq_true (by omega)
  have HF := Lib.hid (show okE S st e = false by simp [okE, headE]; omega)
  unfold evC

  go_enter Try.func92, Try.ntmps92
  go_wp2_with (first
    | go_big_skip
    | (refine own_box 3 (#[Value.int .i64 e.who, .int .i64 e.op, .int .i64 e.a, .int .i64 e.v, .bool e.sh]) O rfl rfl rfl rfl ?_; clear O; intro W a3 O; simp only [Act.put, List.setIfInBounds_toArray, List.set_cons_zero, List.set_cons_succ]))
  have c3 := Later.cell (O.get 0 rfl)
  have cy : ∀ p : Later W, p.1.cell? ⟨y, 5, none⟩ = some (.int .i64 st.r) := fun p => (HL.out.kept (O.keep.trans p.2 (by simp))).y.cell 5
  refine wp_quiet_later (by kernel_rfl) (by kernel_rfl) ?_
  repeat (first
    | go_big_quiet_skip
    | go_big_quiet_step (fail))
  refine wpQuiet_nil ?_
  intro _ hw
  obtain ⟨p', rfl⟩ := hw
  replace O := O.keeps p'.2
  clear c3 cy
  generalize p'.1 = W at O ⊢
  go_wp2
  go_ret
  exact ⟨by rw [HF.out]; rfl, O.keep.wide (by simp), fun h => by rw [HF.out] at h; cases h⟩

set_option maxRecDepth 100000 in
set_option maxHeartbeats 1000000 in
theorem next_bad2 (e : Ev) (l : LayAt w S A c R d y bh bs bt bu n st) (g0 : ¬ e.who < 0) (g1 : ¬ st.r ≤ e.who) (g2 : e.op < 1) : Calls Try.prog 92 #[.pointer (some ⟨y, 0, none⟩), .agg (evC e)] w (NextPost S A c R d y bh bs bt bu n st e w) := by
  have O := Own.start w []
  have HL := Lib.hid l
  clear l
  have q0 : decide (e.who < 0) = false := decide_eq_false (by omega)
  have q1 : decide (st.r ≤ e.who) = false := decide_eq_false (by omega)
  have q2 : decide (e.op < 1) = true := decide_eq_true (by omega)
  have HF := Lib.hid (show okE S st e = false by simp [okE, headE]; omega)
  unfold evC

  go_enter Try.func92, Try.ntmps92
  go_wp2_with (first
    | go_big_skip
    | (refine own_box 3 (#[Value.int .i64 e.who, .int .i64 e.op, .int .i64 e.a, .int .i64 e.v, .bool e.sh]) O rfl rfl rfl rfl ?_; clear O; intro W a3 O; simp only [Act.put, List.setIfInBounds_toArray, List.set_cons_zero, List.set_cons_succ]))
  have c3 := Later.cell (O.get 0 rfl)
  have cy : ∀ p : Later W, p.1.cell? ⟨y, 5, none⟩ = some (.int .i64 st.r) := fun p => (HL.out.kept (O.keep.trans p.2 (by simp))).y.cell 5
  refine wp_quiet_later (by kernel_rfl) (by kernel_rfl) ?_
  repeat (first
    | go_big_quiet_skip
    | go_big_quiet_step (fail))
  refine wpQuiet_nil ?_
  intro _ hw
  obtain ⟨p', rfl⟩ := hw
  replace O := O.keeps p'.2
  clear c3 cy
  generalize p'.1 = W at O ⊢
  go_wp2
  go_ret
  exact ⟨by rw [HF.out]; rfl, O.keep.wide (by simp), fun h => by rw [HF.out] at h; cases h⟩

set_option maxRecDepth 100000 in
set_option maxHeartbeats 1000000 in
theorem next_bad3 (e : Ev) (l : LayAt w S A c R d y bh bs bt bu n st) (g0 : ¬ e.who < 0) (g1 : ¬ st.r ≤ e.who) (g2 : ¬ e.op < 1) (g3 : 16 < e.op) : Calls Try.prog 92 #[.pointer (some ⟨y, 0, none⟩), .agg (evC e)] w (NextPost S A c R d y bh bs bt bu n st e w) := by
  have O := Own.start w []
  have HL := Lib.hid l
  clear l
  have q0 : decide (e.who < 0) = false := decide_eq_false (by omega)
  have q1 : decide (st.r ≤ e.who) = false := decide_eq_false (by omega)
  have q2 : decide (e.op < 1) = false := decide_eq_false (by omega)
  have q3 : decide (16 < e.op) = true := decide_eq_true (by omega)
  have HF := Lib.hid (show okE S st e = false by simp [okE, headE]; omega)
  unfold evC

  go_enter Try.func92, Try.ntmps92
  go_wp2_with (first
    | go_big_skip
    | (refine own_box 3 (#[Value.int .i64 e.who, .int .i64 e.op, .int .i64 e.a, .int .i64 e.v, .bool e.sh]) O rfl rfl rfl rfl ?_; clear O; intro W a3 O; simp only [Act.put, List.setIfInBounds_toArray, List.set_cons_zero, List.set_cons_succ]))
  have c3 := Later.cell (O.get 0 rfl)
  have cy : ∀ p : Later W, p.1.cell? ⟨y, 5, none⟩ = some (.int .i64 st.r) := fun p => (HL.out.kept (O.keep.trans p.2 (by simp))).y.cell 5
  refine wp_quiet_later (by kernel_rfl) (by kernel_rfl) ?_
  repeat (first
    | go_big_quiet_skip
    | go_big_quiet_step (fail))
  refine wpQuiet_nil ?_
  intro _ hw
  obtain ⟨p', rfl⟩ := hw
  replace O := O.keeps p'.2
  clear c3 cy
  generalize p'.1 = W at O ⊢
  go_wp2
  go_ret
  exact ⟨by rw [HF.out]; rfl, O.keep.wide (by simp), fun h => by rw [HF.out] at h; cases h⟩

set_option maxRecDepth 100000 in
set_option maxHeartbeats 1000000 in
theorem next_bada0 (e : Ev) (l : LayAt w S A c R d y bh bs bt bu n st) (g0 : ¬ e.who < 0) (g1 : ¬ st.r ≤ e.who) (g2 : ¬ e.op < 1) (g3 : ¬ 16 < e.op) (g4 : 0 ≤ cnt S e.op) (g5 : e.a < 0) : Calls Try.prog 92 #[.pointer (some ⟨y, 0, none⟩), .agg (evC e)] w (NextPost S A c R d y bh bs bt bu n st e w) := by
  have O := Own.start w []
  have HL := Lib.hid l
  clear l
  have q0 : decide (e.who < 0) = false := decide_eq_false (by omega)
  have q1 : decide (st.r ≤ e.who) = false := decide_eq_false (by omega)
  have q2 : decide (e.op < 1) = false := decide_eq_false (by omega)
  have q3 : decide (16 < e.op) = false := decide_eq_false (by omega)
  have HF := Lib.hid (show okE S st e = false by simp [okE, headE]; omega)
  unfold evC

  go_enter Try.func92, Try.ntmps92
  go_wp2_with (first
    | go_big_skip
    | (refine own_box 3 (#[Value.int .i64 e.who, .int .i64 e.op, .int .i64 e.a, .int .i64 e.v, .bool e.sh]) O rfl rfl rfl rfl ?_; clear O; intro W a3 O; simp only [Act.put, List.setIfInBounds_toArray, List.set_cons_zero, List.set_cons_succ]))
  have c3 := Later.cell (O.get 0 rfl)
  have cy : ∀ p : Later W, p.1.cell? ⟨y, 5, none⟩ = some (.int .i64 st.r) := fun p => (HL.out.kept (O.keep.trans p.2 (by simp))).y.cell 5
  refine wp_quiet_later (by kernel_rfl) (by kernel_rfl) ?_
  repeat (first
    | go_big_quiet_skip
    | go_big_quiet_step (fail))
  refine wpQuiet_nil ?_
  intro _ hw
  obtain ⟨p', rfl⟩ := hw
  replace O := O.keeps p'.2
  clear c3 cy
  generalize p'.1 = W at O ⊢
  go_wp2
  have c3 := Later.cell (O.get 0 rfl)
  have cy : ∀ p : Later W, p.1.cell? ⟨y, 5, none⟩ = some (.int .i64 st.r) := fun p => (HL.out.kept (O.keep.trans p.2 (by simp))).y.cell 5
  generalize hcn : cnt S e.op = cn at *
  have HCN : ∀ u, Hid (Calls Try.prog 109 #[.agg (sysV S A c R d), .int .i64 e.op] u fun e w' => e = .returned (.int .i64 cn) ∧ Keeps u w' []) := fun u => Lib.hid (by rw [← hcn]; exact sharedT_any S A c R d u e.op)
  have HCn := Lib.hid hcn
  clear hcn
  refine wp_quiet_later (by kernel_rfl) (by kernel_rfl) ?_
  repeat (first
    | go_big_quiet_skip
    | (refine wpQuiet_load_at (cs := sysV S A c R d) 31 rfl rfl rfl rfl (fun u hu => by obtain ⟨p', rfl⟩ := hu; exact (HL.out.kept (O.keep.trans p'.2 (by simp))).sysAt) Try.underlying27 rfl (by kernel_rfl) ?_; simp only [Act.put, List.setIfInBounds_toArray, List.set_cons_zero, List.set_cons_succ])
    | go_big_quiet_step ((go_at_call 109; exact later_of (HCN _).out)))
  refine wpQuiet_nil ?_
  intro _ hw
  obtain ⟨p', rfl⟩ := hw
  replace O := O.keeps p'.2
  clear c3 cy
  generalize p'.1 = W at O ⊢
  have c3 := (O.get 0 rfl).cell
  go_wp2
  go_ret
  exact ⟨by rw [HF.out]; rfl, O.keep.wide (by simp), fun h => by rw [HF.out] at h; cases h⟩

set_option maxRecDepth 100000 in
set_option maxHeartbeats 1000000 in
theorem next_bada1 (e : Ev) (l : LayAt w S A c R d y bh bs bt bu n st) (g0 : ¬ e.who < 0) (g1 : ¬ st.r ≤ e.who) (g2 : ¬ e.op < 1) (g3 : ¬ 16 < e.op) (g4 : 0 ≤ cnt S e.op) (g5 : ¬ e.a < 0) (g6 : cnt S e.op ≤ e.a) : Calls Try.prog 92 #[.pointer (some ⟨y, 0, none⟩), .agg (evC e)] w (NextPost S A c R d y bh bs bt bu n st e w) := by
  have O := Own.start w []
  have HL := Lib.hid l
  clear l
  have q0 : decide (e.who < 0) = false := decide_eq_false (by omega)
  have q1 : decide (st.r ≤ e.who) = false := decide_eq_false (by omega)
  have q2 : decide (e.op < 1) = false := decide_eq_false (by omega)
  have q3 : decide (16 < e.op) = false := decide_eq_false (by omega)
  have HF := Lib.hid (show okE S st e = false by simp [okE, headE]; omega)
  unfold evC

  go_enter Try.func92, Try.ntmps92
  go_wp2_with (first
    | go_big_skip
    | (refine own_box 3 (#[Value.int .i64 e.who, .int .i64 e.op, .int .i64 e.a, .int .i64 e.v, .bool e.sh]) O rfl rfl rfl rfl ?_; clear O; intro W a3 O; simp only [Act.put, List.setIfInBounds_toArray, List.set_cons_zero, List.set_cons_succ]))
  have c3 := Later.cell (O.get 0 rfl)
  have cy : ∀ p : Later W, p.1.cell? ⟨y, 5, none⟩ = some (.int .i64 st.r) := fun p => (HL.out.kept (O.keep.trans p.2 (by simp))).y.cell 5
  refine wp_quiet_later (by kernel_rfl) (by kernel_rfl) ?_
  repeat (first
    | go_big_quiet_skip
    | go_big_quiet_step (fail))
  refine wpQuiet_nil ?_
  intro _ hw
  obtain ⟨p', rfl⟩ := hw
  replace O := O.keeps p'.2
  clear c3 cy
  generalize p'.1 = W at O ⊢
  go_wp2
  have c3 := Later.cell (O.get 0 rfl)
  have cy : ∀ p : Later W, p.1.cell? ⟨y, 5, none⟩ = some (.int .i64 st.r) := fun p => (HL.out.kept (O.keep.trans p.2 (by simp))).y.cell 5
  generalize hcn : cnt S e.op = cn at *
  have HCN : ∀ u, Hid (Calls Try.prog 109 #[.agg (sysV S A c R d), .int .i64 e.op] u fun e w' => e = .returned (.int .i64 cn) ∧ Keeps u w' []) := fun u => Lib.hid (by rw [← hcn]; exact sharedT_any S A c R d u e.op)
  have HCn := Lib.hid hcn
  clear hcn
  refine wp_quiet_later (by kernel_rfl) (by kernel_rfl) ?_
  repeat (first
    | go_big_quiet_skip
    | (refine wpQuiet_load_at (cs := sysV S A c R d) 31 rfl rfl rfl rfl (fun u hu => by obtain ⟨p', rfl⟩ := hu; exact (HL.out.kept (O.keep.trans p'.2 (by simp))).sysAt) Try.underlying27 rfl (by kernel_rfl) ?_; simp only [Act.put, List.setIfInBounds_toArray, List.set_cons_zero, List.set_cons_succ])
    | go_big_quiet_step ((go_at_call 109; exact later_of (HCN _).out)))
  refine wpQuiet_nil ?_
  intro _ hw
  obtain ⟨p', rfl⟩ := hw
  replace O := O.keeps p'.2
  clear c3 cy
  generalize p'.1 = W at O ⊢
  have c3 := (O.get 0 rfl).cell
  go_wp2
  go_ret
  exact ⟨by rw [HF.out]; rfl, O.keep.wide (by simp), fun h => by rw [HF.out] at h; cases h⟩

set_option maxRecDepth 100000 in
set_option maxHeartbeats 1000000 in
theorem next_14a (e : Ev) (l : LayAt w S A c R d y bh bs bt bu n st) (he : e.op = 14) (g0 : ¬ e.who < 0) (g1 : ¬ st.r ≤ e.who) (g4 : 0 ≤ cnt S 14) (g5 : ¬ e.a < 0) (g6 : ¬ cnt S 14 ≤ e.a) (_hwf : (Lit.int .i64 e.a).wf = true) (_hn : n < 100000) (_hb : ∀ j, 0 ≤ st.sent j ∧ st.sent j ≤ 100000 ∧ 0 ≤ st.took j ∧ st.took j ≤ 100000) (_hr : 0 ≤ st.r ∧ st.r ≤ 100000) (hv : e.v = 0) : Calls Try.prog 92 #[.pointer (some ⟨y, 0, none⟩), .agg (evC e)] w (NextPost S A c R d y bh bs bt bu n st e w) := by
  have O := Own.start w []
  have HL := Lib.hid l
  clear l
  have q0 : decide (e.who < 0) = false := decide_eq_false (by omega)
  have q1 : decide (st.r ≤ e.who) = false := decide_eq_false (by omega)
  have HF := Lib.hid (show okE S st e = bodyE st e by simp [okE, headE, he]; omega)
  have HB := Lib.hid (show bodyE st e = true by simp [bodyE, he, hv])
  have HN := Lib.hid (show nextE st e = st by simp [nextE, he, hv])
  unfold evC
  rw [he, hv]
  go_enter Try.func92, Try.ntmps92
  go_wp2_with (first
    | go_big_skip
    | (refine own_box 3 (#[Value.int .i64 e.who, .int .i64 14, .int .i64 e.a, .int .i64 0, .bool e.sh]) O rfl rfl rfl rfl ?_; clear O; intro W a3 O; simp only [Act.put, List.setIfInBounds_toArray, List.set_cons_zero, List.set_cons_succ]))
  have c3 := Later.cell (O.get 0 rfl)
  have cy : ∀ p : Later W, p.1.cell? ⟨y, 5, none⟩ = some (.int .i64 st.r) := fun p => (HL.out.kept (O.keep.trans p.2 (by simp))).y.cell 5
  refine wp_quiet_later (by kernel_rfl) (by kernel_rfl) ?_
  repeat (first
    | go_big_quiet_skip
    | go_big_quiet_step (fail))
  refine wpQuiet_nil ?_
  intro _ hw
  obtain ⟨p', rfl⟩ := hw
  replace O := O.keeps p'.2
  clear c3 cy
  generalize p'.1 = W at O ⊢
  go_wp2
  have c3 := Later.cell (O.get 0 rfl)
  have cy : ∀ p : Later W, p.1.cell? ⟨y, 5, none⟩ = some (.int .i64 st.r) := fun p => (HL.out.kept (O.keep.trans p.2 (by simp))).y.cell 5
  generalize hcn : cnt S 14 = cn at *
  have HCN : ∀ u, Hid (Calls Try.prog 109 #[.agg (sysV S A c R d), .int .i64 14] u fun e w' => e = .returned (.int .i64 cn) ∧ Keeps u w' []) := fun u => Lib.hid (by rw [← hcn]; exact sharedT_any S A c R d u 14)
  have HCn := Lib.hid hcn
  clear hcn
  refine wp_quiet_later (by kernel_rfl) (by kernel_rfl) ?_
  repeat (first
    | go_big_quiet_skip
    | (refine wpQuiet_load_at (cs := sysV S A c R d) 31 rfl rfl rfl rfl (fun u hu => by obtain ⟨p', rfl⟩ := hu; exact (HL.out.kept (O.keep.trans p'.2 (by simp))).sysAt) Try.underlying27 rfl (by kernel_rfl) ?_; simp only [Act.put, List.setIfInBounds_toArray, List.set_cons_zero, List.set_cons_succ])
    | go_big_quiet_step ((go_at_call 109; exact later_of (HCN _).out)))
  refine wpQuiet_nil ?_
  intro _ hw
  obtain ⟨p', rfl⟩ := hw
  replace O := O.keeps p'.2
  clear c3 cy
  generalize p'.1 = W at O ⊢
  have c3 := (O.get 0 rfl).cell
  go_wp2
  go_ret
  exact ⟨by rw [HF.out, HB.out]; rfl, O.keep.wide (by simp), fun h => (by rw [HN.out]; exact (HL.out.kept O.keep).mono (by omega))⟩

set_option maxRecDepth 100000 in
set_option maxHeartbeats 1000000 in
theorem next_14b (e : Ev) (l : LayAt w S A c R d y bh bs bt bu n st) (he : e.op = 14) (g0 : ¬ e.who < 0) (g1 : ¬ st.r ≤ e.who) (g4 : 0 ≤ cnt S 14) (g5 : ¬ e.a < 0) (g6 : ¬ cnt S 14 ≤ e.a) (_hwf : (Lit.int .i64 e.a).wf = true) (_hn : n < 100000) (_hb : ∀ j, 0 ≤ st.sent j ∧ st.sent j ≤ 100000 ∧ 0 ≤ st.took j ∧ st.took j ≤ 100000) (_hr : 0 ≤ st.r ∧ st.r ≤ 100000) (hv : ¬ e.v = 0) (hv2 : ¬ e.v = st.r) : Calls Try.prog 92 #[.pointer (some ⟨y, 0, none⟩), .agg (evC e)] w (NextPost S A c R d y bh bs bt bu n st e w) := by
  have O := Own.start w []
  have HL := Lib.hid l
  clear l
  have q0 : decide (e.who < 0) = false := decide_eq_false (by omega)
  have q1 : decide (st.r ≤ e.who) = false := decide_eq_false (by omega)
  have HF := Lib.hid (show okE S st e = bodyE st e by simp [okE, headE, he]; omega)
  have HB := Lib.hid (show bodyE st e = false by simp [bodyE, he, hv, hv2])
  have z : (e.v != st.r) = true := by simpa using hv2
  unfold evC
  rw [he]
  go_enter Try.func92, Try.ntmps92
  go_wp2_with (first
    | go_big_skip
    | (refine own_box 3 (#[Value.int .i64 e.who, .int .i64 14, .int .i64 e.a, .int .i64 e.v, .bool e.sh]) O rfl rfl rfl rfl ?_; clear O; intro W a3 O; simp only [Act.put, List.setIfInBounds_toArray, List.set_cons_zero, List.set_cons_succ]))
  have c3 := Later.cell (O.get 0 rfl)
  have cy : ∀ p : Later W, p.1.cell? ⟨y, 5, none⟩ = some (.int .i64 st.r) := fun p => (HL.out.kept (O.keep.trans p.2 (by simp))).y.cell 5
  refine wp_quiet_later (by kernel_rfl) (by kernel_rfl) ?_
  repeat (first
    | go_big_quiet_skip
    | go_big_quiet_step (fail))
  refine wpQuiet_nil ?_
  intro _ hw
  obtain ⟨p', rfl⟩ := hw
  replace O := O.keeps p'.2
  clear c3 cy
  generalize p'.1 = W at O ⊢
  go_wp2
  have c3 := Later.cell (O.get 0 rfl)
  have cy : ∀ p : Later W, p.1.cell? ⟨y, 5, none⟩ = some (.int .i64 st.r) := fun p => (HL.out.kept (O.keep.trans p.2 (by simp))).y.cell 5
  generalize hcn : cnt S 14 = cn at *
  have HCN : ∀ u, Hid (Calls Try.prog 109 #[.agg (sysV S A c R d), .int .i64 14] u fun e w' => e = .returned (.int .i64 cn) ∧ Keeps u w' []) := fun u => Lib.hid (by rw [← hcn]; exact sharedT_any S A c R d u 14)
  have HCn := Lib.hid hcn
  clear hcn
  refine wp_quiet_later (by kernel_rfl) (by kernel_rfl) ?_
  repeat (first
    | go_big_quiet_skip
    | (refine wpQuiet_load_at (cs := sysV S A c R d) 31 rfl rfl rfl rfl (fun u hu => by obtain ⟨p', rfl⟩ := hu; exact (HL.out.kept (O.keep.trans p'.2 (by simp))).sysAt) Try.underlying27 rfl (by kernel_rfl) ?_; simp only [Act.put, List.setIfInBounds_toArray, List.set_cons_zero, List.set_cons_succ])
    | go_big_quiet_step ((go_at_call 109; exact later_of (HCN _).out)))
  refine wpQuiet_nil ?_
  intro _ hw
  obtain ⟨p', rfl⟩ := hw
  replace O := O.keeps p'.2
  clear c3 cy
  generalize p'.1 = W at O ⊢
  have c3 := (O.get 0 rfl).cell
  go_wp2
  clear c3
  have c3 := Later.cell (O.get 0 rfl)
  have cy : ∀ p : Later W, p.1.cell? ⟨y, 5, none⟩ = some (.int .i64 st.r) := fun p => (HL.out.kept (O.keep.trans p.2 (by simp))).y.cell 5
  refine wp_quiet_later (by kernel_rfl) (by kernel_rfl) ?_
  repeat (first
    | go_big_quiet_skip
    | go_big_quiet_step (fail))
  refine wpQuiet_nil ?_
  intro _ hw
  obtain ⟨p', rfl⟩ := hw
  replace O := O.keeps p'.2
  clear c3 cy
  generalize p'.1 = W at O ⊢
  go_wp2
  go_ret
  exact ⟨by rw [HF.out, HB.out]; rfl, O.keep.wide (by simp), fun h => (by rw [HF.out, HB.out] at h; cases h)⟩

set_option maxRecDepth 100000 in
set_option maxHeartbeats 1000000 in
theorem next_14c (e : Ev) (l : LayAt w S A c R d y bh bs bt bu n st) (he : e.op = 14) (g0 : ¬ e.who < 0) (g1 : ¬ st.r ≤ e.who) (g4 : 0 ≤ cnt S 14) (g5 : ¬ e.a < 0) (g6 : ¬ cnt S 14 ≤ e.a) (_hwf : (Lit.int .i64 e.a).wf = true) (_hn : n < 100000) (_hb : ∀ j, 0 ≤ st.sent j ∧ st.sent j ≤ 100000 ∧ 0 ≤ st.took j ∧ st.took j ≤ 100000) (hr : 0 ≤ st.r ∧ st.r ≤ 100000) (hv : ¬ e.v = 0) (hv2 : e.v = st.r) (hv3 : 512 ≤ st.r) : Calls Try.prog 92 #[.pointer (some ⟨y, 0, none⟩), .agg (evC e)] w (NextPost S A c R d y bh bs bt bu n st e w) := by
  have O := Own.start w []
  have HL := Lib.hid l
  clear l
  have q0 : decide (e.who < 0) = false := decide_eq_false (by omega)
  have q1 : decide (st.r ≤ e.who) = false := decide_eq_false (by omega)
  have HF := Lib.hid (show okE S st e = bodyE st e by simp [okE, headE, he]; omega)
  have HB := Lib.hid (show bodyE st e = false by simp [bodyE, he, hv]; omega)
  have q9 : decide (512 ≤ st.r) = true := decide_eq_true hv3
  have z0 : ¬ st.r = 0 := by omega
  unfold evC
  rw [he, hv2]
  go_enter Try.func92, Try.ntmps92
  go_wp2_with (first
    | go_big_skip
    | (refine own_box 3 (#[Value.int .i64 e.who, .int .i64 14, .int .i64 e.a, .int .i64 st.r, .bool e.sh]) O rfl rfl rfl rfl ?_; clear O; intro W a3 O; simp only [Act.put, List.setIfInBounds_toArray, List.set_cons_zero, List.set_cons_succ]))
  have c3 := Later.cell (O.get 0 rfl)
  have cy : ∀ p : Later W, p.1.cell? ⟨y, 5, none⟩ = some (.int .i64 st.r) := fun p => (HL.out.kept (O.keep.trans p.2 (by simp))).y.cell 5
  refine wp_quiet_later (by kernel_rfl) (by kernel_rfl) ?_
  repeat (first
    | go_big_quiet_skip
    | go_big_quiet_step (fail))
  refine wpQuiet_nil ?_
  intro _ hw
  obtain ⟨p', rfl⟩ := hw
  replace O := O.keeps p'.2
  clear c3 cy
  generalize p'.1 = W at O ⊢
  go_wp2
  have c3 := Later.cell (O.get 0 rfl)
  have cy : ∀ p : Later W, p.1.cell? ⟨y, 5, none⟩ = some (.int .i64 st.r) := fun p => (HL.out.kept (O.keep.trans p.2 (by simp))).y.cell 5
  generalize hcn : cnt S 14 = cn at *
  have HCN : ∀ u, Hid (Calls Try.prog 109 #[.agg (sysV S A c R d), .int .i64 14] u fun e w' => e = .returned (.int .i64 cn) ∧ Keeps u w' []) := fun u => Lib.hid (by rw [← hcn]; exact sharedT_any S A c R d u 14)
  have HCn := Lib.hid hcn
  clear hcn
  refine wp_quiet_later (by kernel_rfl) (by kernel_rfl) ?_
  repeat (first
    | go_big_quiet_skip
    | (refine wpQuiet_load_at (cs := sysV S A c R d) 31 rfl rfl rfl rfl (fun u hu => by obtain ⟨p', rfl⟩ := hu; exact (HL.out.kept (O.keep.trans p'.2 (by simp))).sysAt) Try.underlying27 rfl (by kernel_rfl) ?_; simp only [Act.put, List.setIfInBounds_toArray, List.set_cons_zero, List.set_cons_succ])
    | go_big_quiet_step ((go_at_call 109; exact later_of (HCN _).out)))
  refine wpQuiet_nil ?_
  intro _ hw
  obtain ⟨p', rfl⟩ := hw
  replace O := O.keeps p'.2
  clear c3 cy
  generalize p'.1 = W at O ⊢
  have c3 := (O.get 0 rfl).cell
  go_wp2
  clear c3
  have c3 := Later.cell (O.get 0 rfl)
  have cy : ∀ p : Later W, p.1.cell? ⟨y, 5, none⟩ = some (.int .i64 st.r) := fun p => (HL.out.kept (O.keep.trans p.2 (by simp))).y.cell 5
  refine wp_quiet_later (by kernel_rfl) (by kernel_rfl) ?_
  repeat (first
    | go_big_quiet_skip
    | go_big_quiet_step (fail))
  refine wpQuiet_nil ?_
  intro _ hw
  obtain ⟨p', rfl⟩ := hw
  replace O := O.keeps p'.2
  clear c3 cy
  generalize p'.1 = W at O ⊢
  go_wp2
  go_ret
  exact ⟨by rw [HF.out, HB.out]; rfl, O.keep.wide (by simp), fun h => (by rw [HF.out, HB.out] at h; cases h)⟩

set_option maxRecDepth 100000 in
set_option maxHeartbeats 1000000 in
theorem next_14d (e : Ev) (l : LayAt w S A c R d y bh bs bt bu n st) (he : e.op = 14) (g0 : ¬ e.who < 0) (g1 : ¬ st.r ≤ e.who) (g4 : 0 ≤ cnt S 14) (g5 : ¬ e.a < 0) (g6 : ¬ cnt S 14 ≤ e.a) (_hwf : (Lit.int .i64 e.a).wf = true) (_hn : n < 100000) (_hb : ∀ j, 0 ≤ st.sent j ∧ st.sent j ≤ 100000 ∧ 0 ≤ st.took j ∧ st.took j ≤ 100000) (hr : 0 ≤ st.r ∧ st.r ≤ 100000) (hv : ¬ e.v = 0) (hv2 : e.v = st.r) (hv3 : ¬ 512 ≤ st.r) : Calls Try.prog 92 #[.pointer (some ⟨y, 0, none⟩), .agg (evC e)] w (NextPost S A c R d y bh bs bt bu n st e w) := by
  have O := Own.start w []
  have HL := Lib.hid l
  clear l
  have q0 : decide (e.who < 0) = false := decide_eq_false (by omega)
  have q1 : decide (st.r ≤ e.who) = false := decide_eq_false (by omega)
  have HF := Lib.hid (show okE S st e = bodyE st e by simp [okE, headE, he]; omega)
  have HB := Lib.hid (show bodyE st e = true by simp [bodyE, he, hv]; omega)
  have HN := Lib.hid (show nextE st e = { st with r := st.r + 1 } by simp [nextE, he, hv])
  have q9 : decide (512 ≤ st.r) = false := decide_eq_false hv3
  have z0 : ¬ st.r = 0 := by omega
  have r1 : IntKind.i64.wrap (st.r + 1) = st.r + 1 := IntWalk.i64_in _ (by omega)
  unfold evC
  rw [he, hv2]
  go_enter Try.func92, Try.ntmps92
  go_wp2_with (first
    | go_big_skip
    | (refine own_box 3 (#[Value.int .i64 e.who, .int .i64 14, .int .i64 e.a, .int .i64 st.r, .bool e.sh]) O rfl rfl rfl rfl ?_; clear O; intro W a3 O; simp only [Act.put, List.setIfInBounds_toArray, List.set_cons_zero, List.set_cons_succ]))
  have c3 := Later.cell (O.get 0 rfl)
  have cy : ∀ p : Later W, p.1.cell? ⟨y, 5, none⟩ = some (.int .i64 st.r) := fun p => (HL.out.kept (O.keep.trans p.2 (by simp))).y.cell 5
  refine wp_quiet_later (by kernel_rfl) (by kernel_rfl) ?_
  repeat (first
    | go_big_quiet_skip
    | go_big_quiet_step (fail))
  refine wpQuiet_nil ?_
  intro _ hw
  obtain ⟨p', rfl⟩ := hw
  replace O := O.keeps p'.2
  clear c3 cy
  generalize p'.1 = W at O ⊢
  go_wp2
  have c3 := Later.cell (O.get 0 rfl)
  have cy : ∀ p : Later W, p.1.cell? ⟨y, 5, none⟩ = some (.int .i64 st.r) := fun p => (HL.out.kept (O.keep.trans p.2 (by simp))).y.cell 5
  generalize hcn : cnt S 14 = cn at *
  have HCN : ∀ u, Hid (Calls Try.prog 109 #[.agg (sysV S A c R d), .int .i64 14] u fun e w' => e = .returned (.int .i64 cn) ∧ Keeps u w' []) := fun u => Lib.hid (by rw [← hcn]; exact sharedT_any S A c R d u 14)
  have HCn := Lib.hid hcn
  clear hcn
  refine wp_quiet_later (by kernel_rfl) (by kernel_rfl) ?_
  repeat (first
    | go_big_quiet_skip
    | (refine wpQuiet_load_at (cs := sysV S A c R d) 31 rfl rfl rfl rfl (fun u hu => by obtain ⟨p', rfl⟩ := hu; exact (HL.out.kept (O.keep.trans p'.2 (by simp))).sysAt) Try.underlying27 rfl (by kernel_rfl) ?_; simp only [Act.put, List.setIfInBounds_toArray, List.set_cons_zero, List.set_cons_succ])
    | go_big_quiet_step ((go_at_call 109; exact later_of (HCN _).out)))
  refine wpQuiet_nil ?_
  intro _ hw
  obtain ⟨p', rfl⟩ := hw
  replace O := O.keeps p'.2
  clear c3 cy
  generalize p'.1 = W at O ⊢
  have c3 := (O.get 0 rfl).cell
  go_wp2
  clear c3
  have c3 := Later.cell (O.get 0 rfl)
  have cy : ∀ p : Later W, p.1.cell? ⟨y, 5, none⟩ = some (.int .i64 st.r) := fun p => (HL.out.kept (O.keep.trans p.2 (by simp))).y.cell 5
  refine wp_quiet_later (by kernel_rfl) (by kernel_rfl) ?_
  repeat (first
    | go_big_quiet_skip
    | go_big_quiet_step (fail))
  refine wpQuiet_nil ?_
  intro _ hw
  obtain ⟨p', rfl⟩ := hw
  replace O := O.keeps p'.2
  clear c3 cy
  generalize p'.1 = W at O ⊢
  have cy : W.cell? ⟨y, 5, none⟩ = some (.int .i64 st.r) := (HL.out.kept O.keep).y.cell 5
  go_wp2_with (first
    | (refine wpList_store_blk y 5 156 _ (.int .i64 (st.r + 1)) rfl rfl rfl rfl rfl (HL.out.kept O.keep).y (by show 5 < 10; omega) rfl rfl (by kernel_rfl) ?_; intro u K M))
  have L2 := Lib.hid ((HL.out.kept O.keep).setY K M)
  have K2 := Lib.hid ((O.keep.wide (L' := [y, bh, bs, bt, bu]) (by simp)).trans (K.wide (L' := [y, bh, bs, bt, bu]) (by simp)) (fun b hb _ => hb))
  clear M cy
  go_wp2
  go_ret
  exact ⟨by rw [HF.out, HB.out]; rfl, K2.out, fun h => (by rw [HN.out]; exact L2.out.mono (by omega))⟩

set_option maxRecDepth 100000 in
set_option maxHeartbeats 1000000 in
theorem next_5 (e : Ev) (l : LayAt w S A c R d y bh bs bt bu n st) (he : e.op = 5) (g0 : ¬ e.who < 0) (g1 : ¬ st.r ≤ e.who) (g4 : 0 ≤ cnt S 5) (g5 : ¬ e.a < 0) (g6 : ¬ cnt S 5 ≤ e.a) (hwf : (Lit.int .i64 e.a).wf = true) (hn : n < 100000) (hb : ∀ j, 0 ≤ st.sent j ∧ st.sent j ≤ 100000 ∧ 0 ≤ st.took j ∧ st.took j ≤ 100000) (_hr : 0 ≤ st.r ∧ st.r ≤ 100000)  : Calls Try.prog 92 #[.pointer (some ⟨y, 0, none⟩), .agg (evC e)] w (NextPost S A c R d y bh bs bt bu n st e w) := by
  have O := Own.start w []
  have HL := Lib.hid l
  clear l
  have q0 : decide (e.who < 0) = false := decide_eq_false (by omega)
  have q1 : decide (st.r ≤ e.who) = false := decide_eq_false (by omega)
  have HF := Lib.hid (show okE S st e = bodyE st e by simp [okE, headE, he]; omega)
  have HB := Lib.hid (show bodyE st e = true by simp [bodyE, he])
  have HN := Lib.hid (show nextE st e = { st with sent := updI st.sent e.a (st.sent e.a + 1) } by simp [nextE, he])
  have r1 : IntKind.i64.wrap (st.sent e.a + 1) = st.sent e.a + 1 := IntWalk.i64_in _ (by have := hb e.a; omega)
  unfold evC
  rw [he]
  go_enter Try.func92, Try.ntmps92
  go_wp2_with (first
    | go_big_skip
    | (refine own_box 3 (#[Value.int .i64 e.who, .int .i64 5, .int .i64 e.a, .int .i64 e.v, .bool e.sh]) O rfl rfl rfl rfl ?_; clear O; intro W a3 O; simp only [Act.put, List.setIfInBounds_toArray, List.set_cons_zero, List.set_cons_succ]))
  have c3 := Later.cell (O.get 0 rfl)
  have cy : ∀ p : Later W, p.1.cell? ⟨y, 5, none⟩ = some (.int .i64 st.r) := fun p => (HL.out.kept (O.keep.trans p.2 (by simp))).y.cell 5
  refine wp_quiet_later (by kernel_rfl) (by kernel_rfl) ?_
  repeat (first
    | go_big_quiet_skip
    | go_big_quiet_step (fail))
  refine wpQuiet_nil ?_
  intro _ hw
  obtain ⟨p', rfl⟩ := hw
  replace O := O.keeps p'.2
  clear c3 cy
  generalize p'.1 = W at O ⊢
  go_wp2
  have c3 := Later.cell (O.get 0 rfl)
  have cy : ∀ p : Later W, p.1.cell? ⟨y, 5, none⟩ = some (.int .i64 st.r) := fun p => (HL.out.kept (O.keep.trans p.2 (by simp))).y.cell 5
  generalize hcn : cnt S 5 = cn at *
  have HCN : ∀ u, Hid (Calls Try.prog 109 #[.agg (sysV S A c R d), .int .i64 5] u fun e w' => e = .returned (.int .i64 cn) ∧ Keeps u w' []) := fun u => Lib.hid (by rw [← hcn]; exact sharedT_any S A c R d u 5)
  have HCn := Lib.hid hcn
  clear hcn
  refine wp_quiet_later (by kernel_rfl) (by kernel_rfl) ?_
  repeat (first
    | go_big_quiet_skip
    | (refine wpQuiet_load_at (cs := sysV S A c R d) 31 rfl rfl rfl rfl (fun u hu => by obtain ⟨p', rfl⟩ := hu; exact (HL.out.kept (O.keep.trans p'.2 (by simp))).sysAt) Try.underlying27 rfl (by kernel_rfl) ?_; simp only [Act.put, List.setIfInBounds_toArray, List.set_cons_zero, List.set_cons_succ])
    | go_big_quiet_step ((go_at_call 109; exact later_of (HCN _).out)))
  refine wpQuiet_nil ?_
  intro _ hw
  obtain ⟨p', rfl⟩ := hw
  replace O := O.keeps p'.2
  clear c3 cy
  generalize p'.1 = W at O ⊢
  have c3 := (O.get 0 rfl).cell
  go_wp2
  clear c3
  have c3 := Later.cell (O.get 0 rfl)
  have cy : ∀ p : Later W, p.1.cell? ⟨y, 7, none⟩ = some (.map (some bs)) := fun p => (HL.out.kept (O.keep.trans p.2 (by simp))).y.cell 7
  have lk : ∀ p : Later W, (Instr.lookup 117 (.map (some bs)) (.int .i64 e.a) false).run Try.prog p.1 = .ok (.int .i64 (st.sent e.a)) p.1 := fun p => look_eqI (HL.out.kept (O.keep.trans p.2 (by simp))).s 117 Try.underlying117 e.a hwf
  refine wp_quiet_tail_later 8 (by kernel_rfl) (by kernel_rfl) ?_
  simp only [List.take, List.drop]
  repeat (first
    | go_big_quiet_skip
    | go_big_quiet_step (fail))
  refine wpQuiet_nil ?_
  intro _ hw
  obtain ⟨p', rfl⟩ := hw
  replace O := O.keeps p'.2
  clear c3 cy lk
  generalize p'.1 = W at O ⊢
  refine map_storeI (HL.out.kept O.keep).s 117 Try.underlying117 rfl rfl rfl rfl hwf rfl (WalkArith.wf_i64 (by have := hb e.a; omega)) (by unfold maxLen; omega) ?_
  intro u K M
  have L2 := Lib.hid ((HL.out.kept O.keep).setS K M)
  have K2 := Lib.hid ((O.keep.wide (L' := [y, bh, bs, bt, bu]) (by simp)).trans (K.wide (L' := [y, bh, bs, bt, bu]) (by simp)) (fun b hb _ => hb))
  clear M
  go_wp2
  go_ret
  exact ⟨by rw [HF.out, HB.out]; rfl, K2.out, fun h => (by rw [HN.out]; exact L2.out)⟩

set_option maxRecDepth 100000 in
set_option maxHeartbeats 1000000 in
theorem next_7 (e : Ev) (l : LayAt w S A c R d y bh bs bt bu n st) (he : e.op = 7) (g0 : ¬ e.who < 0) (g1 : ¬ st.r ≤ e.who) (g4 : 0 ≤ cnt S 7) (g5 : ¬ e.a < 0) (g6 : ¬ cnt S 7 ≤ e.a) (hwf : (Lit.int .i64 e.a).wf = true) (hn : n < 100000) (_hb : ∀ j, 0 ≤ st.sent j ∧ st.sent j ≤ 100000 ∧ 0 ≤ st.took j ∧ st.took j ≤ 100000) (_hr : 0 ≤ st.r ∧ st.r ≤ 100000)  : Calls Try.prog 92 #[.pointer (some ⟨y, 0, none⟩), .agg (evC e)] w (NextPost S A c R d y bh bs bt bu n st e w) := by
  have O := Own.start w []
  have HL := Lib.hid l
  clear l
  have q0 : decide (e.who < 0) = false := decide_eq_false (by omega)
  have q1 : decide (st.r ≤ e.who) = false := decide_eq_false (by omega)
  have HF := Lib.hid (show okE S st e = bodyE st e by simp [okE, headE, he]; omega)
  have HB := Lib.hid (show bodyE st e = true by simp [bodyE, he])
  have HN := Lib.hid (show nextE st e = { st with shut := updI st.shut e.a true } by simp [nextE, he])
  unfold evC
  rw [he]
  go_enter Try.func92, Try.ntmps92
  go_wp2_with (first
    | go_big_skip
    | (refine own_box 3 (#[Value.int .i64 e.who, .int .i64 7, .int .i64 e.a, .int .i64 e.v, .bool e.sh]) O rfl rfl rfl rfl ?_; clear O; intro W a3 O; simp only [Act.put, List.setIfInBounds_toArray, List.set_cons_zero, List.set_cons_succ]))
  have c3 := Later.cell (O.get 0 rfl)
  have cy : ∀ p : Later W, p.1.cell? ⟨y, 5, none⟩ = some (.int .i64 st.r) := fun p => (HL.out.kept (O.keep.trans p.2 (by simp))).y.cell 5
  refine wp_quiet_later (by kernel_rfl) (by kernel_rfl) ?_
  repeat (first
    | go_big_quiet_skip
    | go_big_quiet_step (fail))
  refine wpQuiet_nil ?_
  intro _ hw
  obtain ⟨p', rfl⟩ := hw
  replace O := O.keeps p'.2
  clear c3 cy
  generalize p'.1 = W at O ⊢
  go_wp2
  have c3 := Later.cell (O.get 0 rfl)
  have cy : ∀ p : Later W, p.1.cell? ⟨y, 5, none⟩ = some (.int .i64 st.r) := fun p => (HL.out.kept (O.keep.trans p.2 (by simp))).y.cell 5
  generalize hcn : cnt S 7 = cn at *
  have HCN : ∀ u, Hid (Calls Try.prog 109 #[.agg (sysV S A c R d), .int .i64 7] u fun e w' => e = .returned (.int .i64 cn) ∧ Keeps u w' []) := fun u => Lib.hid (by rw [← hcn]; exact sharedT_any S A c R d u 7)
  have HCn := Lib.hid hcn
  clear hcn
  refine wp_quiet_later (by kernel_rfl) (by kernel_rfl) ?_
  repeat (first
    | go_big_quiet_skip
    | (refine wpQuiet_load_at (cs := sysV S A c R d) 31 rfl rfl rfl rfl (fun u hu => by obtain ⟨p', rfl⟩ := hu; exact (HL.out.kept (O.keep.trans p'.2 (by simp))).sysAt) Try.underlying27 rfl (by kernel_rfl) ?_; simp only [Act.put, List.setIfInBounds_toArray, List.set_cons_zero, List.set_cons_succ])
    | go_big_quiet_step ((go_at_call 109; exact later_of (HCN _).out)))
  refine wpQuiet_nil ?_
  intro _ hw
  obtain ⟨p', rfl⟩ := hw
  replace O := O.keeps p'.2
  clear c3 cy
  generalize p'.1 = W at O ⊢
  have c3 := (O.get 0 rfl).cell
  go_wp2
  clear c3
  have c3 := Later.cell (O.get 0 rfl)
  have cy : ∀ p : Later W, p.1.cell? ⟨y, 9, none⟩ = some (.map (some bu)) := fun p => (HL.out.kept (O.keep.trans p.2 (by simp))).y.cell 9
  refine wp_quiet_tail_later 6 (by kernel_rfl) (by kernel_rfl) ?_
  simp only [List.take, List.drop]
  repeat (first
    | go_big_quiet_skip
    | go_big_quiet_step (fail))
  refine wpQuiet_nil ?_
  intro _ hw
  obtain ⟨p', rfl⟩ := hw
  replace O := O.keeps p'.2
  clear c3 cy
  generalize p'.1 = W at O ⊢
  refine map_storeB (HL.out.kept O.keep).u 154 Try.underlying154 rfl rfl rfl rfl hwf rfl (by unfold maxLen; omega) ?_
  intro u K M
  have L2 := Lib.hid ((HL.out.kept O.keep).setU K M)
  have K2 := Lib.hid ((O.keep.wide (L' := [y, bh, bs, bt, bu]) (by simp)).trans (K.wide (L' := [y, bh, bs, bt, bu]) (by simp)) (fun b hb _ => hb))
  clear M
  go_wp2
  go_ret
  exact ⟨by rw [HF.out, HB.out]; rfl, K2.out, fun h => (by rw [HN.out]; exact L2.out)⟩

set_option maxRecDepth 100000 in
set_option maxHeartbeats 1000000 in
theorem next_9 (e : Ev) (l : LayAt w S A c R d y bh bs bt bu n st) (he : e.op = 9) (g0 : ¬ e.who < 0) (g1 : ¬ st.r ≤ e.who) (g4 : 0 ≤ cnt S 9) (g5 : ¬ e.a < 0) (g6 : ¬ cnt S 9 ≤ e.a) (hwf : (Lit.int .i64 e.a).wf = true) (hn : n < 100000) (_hb : ∀ j, 0 ≤ st.sent j ∧ st.sent j ≤ 100000 ∧ 0 ≤ st.took j ∧ st.took j ≤ 100000) (_hr : 0 ≤ st.r ∧ st.r ≤ 100000)  : Calls Try.prog 92 #[.pointer (some ⟨y, 0, none⟩), .agg (evC e)] w (NextPost S A c R d y bh bs bt bu n st e w) := by
  have O := Own.start w []
  have HL := Lib.hid l
  clear l
  have q0 : decide (e.who < 0) = false := decide_eq_false (by omega)
  have q1 : decide (st.r ≤ e.who) = false := decide_eq_false (by omega)
  have HF := Lib.hid (show okE S st e = bodyE st e by simp [okE, headE, he]; omega)
  have HB := Lib.hid (show bodyE st e = true by simp [bodyE, he])
  have HN := Lib.hid (show nextE st e = { st with held := updI st.held e.a false } by simp [nextE, he])
  unfold evC
  rw [he]
  go_enter Try.func92, Try.ntmps92
  go_wp2_with (first
    | go_big_skip
    | (refine own_box 3 (#[Value.int .i64 e.who, .int .i64 9, .int .i64 e.a, .int .i64 e.v, .bool e.sh]) O rfl rfl rfl rfl ?_; clear O; intro W a3 O; simp only [Act.put, List.setIfInBounds_toArray, List.set_cons_zero, List.set_cons_succ]))
  have c3 := Later.cell (O.get 0 rfl)
  have cy : ∀ p : Later W, p.1.cell? ⟨y, 5, none⟩ = some (.int .i64 st.r) := fun p => (HL.out.kept (O.keep.trans p.2 (by simp))).y.cell 5
  refine wp_quiet_later (by kernel_rfl) (by kernel_rfl) ?_
  repeat (first
    | go_big_quiet_skip
    | go_big_quiet_step (fail))
  refine wpQuiet_nil ?_
  intro _ hw
  obtain ⟨p', rfl⟩ := hw
  replace O := O.keeps p'.2
  clear c3 cy
  generalize p'.1 = W at O ⊢
  go_wp2
  have c3 := Later.cell (O.get 0 rfl)
  have cy : ∀ p : Later W, p.1.cell? ⟨y, 5, none⟩ = some (.int .i64 st.r) := fun p => (HL.out.kept (O.keep.trans p.2 (by simp))).y.cell 5
  generalize hcn : cnt S 9 = cn at *
  have HCN : ∀ u, Hid (Calls Try.prog 109 #[.agg (sysV S A c R d), .int .i64 9] u fun e w' => e = .returned (.int .i64 cn) ∧ Keeps u w' []) := fun u => Lib.hid (by rw [← hcn]; exact sharedT_any S A c R d u 9)
  have HCn := Lib.hid hcn
  clear hcn
  refine wp_quiet_later (by kernel_rfl) (by kernel_rfl) ?_
  repeat (first
    | go_big_quiet_skip
    | (refine wpQuiet_load_at (cs := sysV S A c R d) 31 rfl rfl rfl rfl (fun u hu => by obtain ⟨p', rfl⟩ := hu; exact (HL.out.kept (O.keep.trans p'.2 (by simp))).sysAt) Try.underlying27 rfl (by kernel_rfl) ?_; simp only [Act.put, List.setIfInBounds_toArray, List.set_cons_zero, List.set_cons_succ])
    | go_big_quiet_step ((go_at_call 109; exact later_of (HCN _).out)))
  refine wpQuiet_nil ?_
  intro _ hw
  obtain ⟨p', rfl⟩ := hw
  replace O := O.keeps p'.2
  clear c3 cy
  generalize p'.1 = W at O ⊢
  have c3 := (O.get 0 rfl).cell
  go_wp2
  clear c3
  have c3 := Later.cell (O.get 0 rfl)
  have cy : ∀ p : Later W, p.1.cell? ⟨y, 6, none⟩ = some (.map (some bh)) := fun p => (HL.out.kept (O.keep.trans p.2 (by simp))).y.cell 6
  refine wp_quiet_tail_later 6 (by kernel_rfl) (by kernel_rfl) ?_
  simp only [List.take, List.drop]
  repeat (first
    | go_big_quiet_skip
    | go_big_quiet_step (fail))
  refine wpQuiet_nil ?_
  intro _ hw
  obtain ⟨p', rfl⟩ := hw
  replace O := O.keeps p'.2
  clear c3 cy
  generalize p'.1 = W at O ⊢
  refine map_storeB (HL.out.kept O.keep).h 154 Try.underlying154 rfl rfl rfl rfl hwf rfl (by unfold maxLen; omega) ?_
  intro u K M
  have L2 := Lib.hid ((HL.out.kept O.keep).setH K M)
  have K2 := Lib.hid ((O.keep.wide (L' := [y, bh, bs, bt, bu]) (by simp)).trans (K.wide (L' := [y, bh, bs, bt, bu]) (by simp)) (fun b hb _ => hb))
  clear M
  go_wp2
  go_ret
  exact ⟨by rw [HF.out, HB.out]; rfl, K2.out, fun h => (by rw [HN.out]; exact L2.out)⟩

set_option maxRecDepth 100000 in
set_option maxHeartbeats 1000000 in
theorem next_8a (e : Ev) (l : LayAt w S A c R d y bh bs bt bu n st) (he : e.op = 8) (g0 : ¬ e.who < 0) (g1 : ¬ st.r ≤ e.who) (g4 : 0 ≤ cnt S 8) (g5 : ¬ e.a < 0) (g6 : ¬ cnt S 8 ≤ e.a) (hwf : (Lit.int .i64 e.a).wf = true) (_hn : n < 100000) (_hb : ∀ j, 0 ≤ st.sent j ∧ st.sent j ≤ 100000 ∧ 0 ≤ st.took j ∧ st.took j ≤ 100000) (_hr : 0 ≤ st.r ∧ st.r ≤ 100000) (hv : st.held e.a = true) : Calls Try.prog 92 #[.pointer (some ⟨y, 0, none⟩), .agg (evC e)] w (NextPost S A c R d y bh bs bt bu n st e w) := by
  have O := Own.start w []
  have HL := Lib.hid l
  clear l
  have q0 : decide (e.who < 0) = false := decide_eq_false (by omega)
  have q1 : decide (st.r ≤ e.who) = false := decide_eq_false (by omega)
  have HF := Lib.hid (show okE S st e = bodyE st e by simp [okE, headE, he]; omega)
  have HB := Lib.hid (show bodyE st e = false by simp [bodyE, he, hv])
  have HV := Lib.hid hv
  clear hv
  unfold evC
  rw [he]
  go_enter Try.func92, Try.ntmps92
  go_wp2_with (first
    | go_big_skip
    | (refine own_box 3 (#[Value.int .i64 e.who, .int .i64 8, .int .i64 e.a, .int .i64 e.v, .bool e.sh]) O rfl rfl rfl rfl ?_; clear O; intro W a3 O; simp only [Act.put, List.setIfInBounds_toArray, List.set_cons_zero, List.set_cons_succ]))
  have c3 := Later.cell (O.get 0 rfl)
  have cy : ∀ p : Later W, p.1.cell? ⟨y, 5, none⟩ = some (.int .i64 st.r) := fun p => (HL.out.kept (O.keep.trans p.2 (by simp))).y.cell 5
  refine wp_quiet_later (by kernel_rfl) (by kernel_rfl) ?_
  repeat (first
    | go_big_quiet_skip
    | go_big_quiet_step (fail))
  refine wpQuiet_nil ?_
  intro _ hw
  obtain ⟨p', rfl⟩ := hw
  replace O := O.keeps p'.2
  clear c3 cy
  generalize p'.1 = W at O ⊢
  go_wp2
  have c3 := Later.cell (O.get 0 rfl)
  have cy : ∀ p : Later W, p.1.cell? ⟨y, 5, none⟩ = some (.int .i64 st.r) := fun p => (HL.out.kept (O.keep.trans p.2 (by simp))).y.cell 5
  generalize hcn : cnt S 8 = cn at *
  have HCN : ∀ u, Hid (Calls Try.prog 109 #[.agg (sysV S A c R d), .int .i64 8] u fun e w' => e = .returned (.int .i64 cn) ∧ Keeps u w' []) := fun u => Lib.hid (by rw [← hcn]; exact sharedT_any S A c R d u 8)
  have HCn := Lib.hid hcn
  clear hcn
  refine wp_quiet_later (by kernel_rfl) (by kernel_rfl) ?_
  repeat (first
    | go_big_quiet_skip
    | (refine wpQuiet_load_at (cs := sysV S A c R d) 31 rfl rfl rfl rfl (fun u hu => by obtain ⟨p', rfl⟩ := hu; exact (HL.out.kept (O.keep.trans p'.2 (by simp))).sysAt) Try.underlying27 rfl (by kernel_rfl) ?_; simp only [Act.put, List.setIfInBounds_toArray, List.set_cons_zero, List.set_cons_succ])
    | go_big_quiet_step ((go_at_call 109; exact later_of (HCN _).out)))
  refine wpQuiet_nil ?_
  intro _ hw
  obtain ⟨p', rfl⟩ := hw
  replace O := O.keeps p'.2
  clear c3 cy
  generalize p'.1 = W at O ⊢
  have c3 := (O.get 0 rfl).cell
  go_wp2
  clear c3
  have c3 := Later.cell (O.get 0 rfl)
  have cy : ∀ p : Later W, p.1.cell? ⟨y, 6, none⟩ = some (.map (some bh)) := fun p => (HL.out.kept (O.keep.trans p.2 (by simp))).y.cell 6
  have lk : ∀ p : Later W, (Instr.lookup 154 (.map (some bh)) (.int .i64 e.a) false).run Try.prog p.1 = .ok (.bool true) p.1 := fun p => by have := look_eqB (HL.out.kept (O.keep.trans p.2 (by simp))).h 154 Try.underlying154 e.a hwf; rwa [HV.out] at this
  refine wp_quiet_later (by kernel_rfl) (by kernel_rfl) ?_
  repeat (first
    | go_big_quiet_skip
    | go_big_quiet_step (fail))
  refine wpQuiet_nil ?_
  intro _ hw
  obtain ⟨p', rfl⟩ := hw
  replace O := O.keeps p'.2
  clear c3 cy lk
  generalize p'.1 = W at O ⊢
  go_wp2
  go_ret
  exact ⟨by rw [HF.out, HB.out]; rfl, O.keep.wide (by simp), fun h => (by rw [HF.out, HB.out] at h; cases h)⟩

set_option maxRecDepth 100000 in
set_option maxHeartbeats 1000000 in
theorem next_8b (e : Ev) (l : LayAt w S A c R d y bh bs bt bu n st) (he : e.op = 8) (g0 : ¬ e.who < 0) (g1 : ¬ st.r ≤ e.who) (g4 : 0 ≤ cnt S 8) (g5 : ¬ e.a < 0) (g6 : ¬ cnt S 8 ≤ e.a) (hwf : (Lit.int .i64 e.a).wf = true) (hn : n < 100000) (_hb : ∀ j, 0 ≤ st.sent j ∧ st.sent j ≤ 100000 ∧ 0 ≤ st.took j ∧ st.took j ≤ 100000) (_hr : 0 ≤ st.r ∧ st.r ≤ 100000) (hv : st.held e.a = false) : Calls Try.prog 92 #[.pointer (some ⟨y, 0, none⟩), .agg (evC e)] w (NextPost S A c R d y bh bs bt bu n st e w) := by
  have O := Own.start w []
  have HL := Lib.hid l
  clear l
  have q0 : decide (e.who < 0) = false := decide_eq_false (by omega)
  have q1 : decide (st.r ≤ e.who) = false := decide_eq_false (by omega)
  have HF := Lib.hid (show okE S st e = bodyE st e by simp [okE, headE, he]; omega)
  have HB := Lib.hid (show bodyE st e = true by simp [bodyE, he, hv])
  have HN := Lib.hid (show nextE st e = { st with held := updI st.held e.a true } by simp [nextE, he])
  have HV := Lib.hid hv
  clear hv
  unfold evC
  rw [he]
  go_enter Try.func92, Try.ntmps92
  go_wp2_with (first
    | go_big_skip
    | (refine own_box 3 (#[Value.int .i64 e.who, .int .i64 8, .int .i64 e.a, .int .i64 e.v, .bool e.sh]) O rfl rfl rfl rfl ?_; clear O; intro W a3 O; simp only [Act.put, List.setIfInBounds_toArray, List.set_cons_zero, List.set_cons_succ]))
  have c3 := Later.cell (O.get 0 rfl)
  have cy : ∀ p : Later W, p.1.cell? ⟨y, 5, none⟩ = some (.int .i64 st.r) := fun p => (HL.out.kept (O.keep.trans p.2 (by simp))).y.cell 5
  refine wp_quiet_later (by kernel_rfl) (by kernel_rfl) ?_
  repeat (first
    | go_big_quiet_skip
    | go_big_quiet_step (fail))
  refine wpQuiet_nil ?_
  intro _ hw
  obtain ⟨p', rfl⟩ := hw
  replace O := O.keeps p'.2
  clear c3 cy
  generalize p'.1 = W at O ⊢
  go_wp2
  have c3 := Later.cell (O.get 0 rfl)
  have cy : ∀ p : Later W, p.1.cell? ⟨y, 5, none⟩ = some (.int .i64 st.r) := fun p => (HL.out.kept (O.keep.trans p.2 (by simp))).y.cell 5
  generalize hcn : cnt S 8 = cn at *
  have HCN : ∀ u, Hid (Calls Try.prog 109 #[.agg (sysV S A c R d), .int .i64 8] u fun e w' => e = .returned (.int .i64 cn) ∧ Keeps u w' []) := fun u => Lib.hid (by rw [← hcn]; exact sharedT_any S A c R d u 8)
  have HCn := Lib.hid hcn
  clear hcn
  refine wp_quiet_later (by kernel_rfl) (by kernel_rfl) ?_
  repeat (first
    | go_big_quiet_skip
    | (refine wpQuiet_load_at (cs := sysV S A c R d) 31 rfl rfl rfl rfl (fun u hu => by obtain ⟨p', rfl⟩ := hu; exact (HL.out.kept (O.keep.trans p'.2 (by simp))).sysAt) Try.underlying27 rfl (by kernel_rfl) ?_; simp only [Act.put, List.setIfInBounds_toArray, List.set_cons_zero, List.set_cons_succ])
    | go_big_quiet_step ((go_at_call 109; exact later_of (HCN _).out)))
  refine wpQuiet_nil ?_
  intro _ hw
  obtain ⟨p', rfl⟩ := hw
  replace O := O.keeps p'.2
  clear c3 cy
  generalize p'.1 = W at O ⊢
  have c3 := (O.get 0 rfl).cell
  go_wp2
  clear c3
  have c3 := Later.cell (O.get 0 rfl)
  have cy : ∀ p : Later W, p.1.cell? ⟨y, 6, none⟩ = some (.map (some bh)) := fun p => (HL.out.kept (O.keep.trans p.2 (by simp))).y.cell 6
  have lk : ∀ p : Later W, (Instr.lookup 154 (.map (some bh)) (.int .i64 e.a) false).run Try.prog p.1 = .ok (.bool false) p.1 := fun p => by have := look_eqB (HL.out.kept (O.keep.trans p.2 (by simp))).h 154 Try.underlying154 e.a hwf; rwa [HV.out] at this
  refine wp_quiet_later (by kernel_rfl) (by kernel_rfl) ?_
  repeat (first
    | go_big_quiet_skip
    | go_big_quiet_step (fail))
  refine wpQuiet_nil ?_
  intro _ hw
  obtain ⟨p', rfl⟩ := hw
  replace O := O.keeps p'.2
  clear c3 cy lk
  generalize p'.1 = W at O ⊢
  have c3 := (O.get 0 rfl).cell
  go_wp2
  clear c3
  have c3 := Later.cell (O.get 0 rfl)
  have cy : ∀ p : Later W, p.1.cell? ⟨y, 6, none⟩ = some (.map (some bh)) := fun p => (HL.out.kept (O.keep.trans p.2 (by simp))).y.cell 6
  refine wp_quiet_tail_later 6 (by kernel_rfl) (by kernel_rfl) ?_
  simp only [List.take, List.drop]
  repeat (first
    | go_big_quiet_skip
    | go_big_quiet_step (fail))
  refine wpQuiet_nil ?_
  intro _ hw
  obtain ⟨p', rfl⟩ := hw
  replace O := O.keeps p'.2
  clear c3 cy
  generalize p'.1 = W at O ⊢
  refine map_storeB (HL.out.kept O.keep).h 154 Try.underlying154 rfl rfl rfl rfl hwf rfl (by unfold maxLen; omega) ?_
  intro u K M
  have L2 := Lib.hid ((HL.out.kept O.keep).setH K M)
  have K2 := Lib.hid ((O.keep.wide (L' := [y, bh, bs, bt, bu]) (by simp)).trans (K.wide (L' := [y, bh, bs, bt, bu]) (by simp)) (fun b hb _ => hb))
  clear M
  go_wp2
  go_ret
  exact ⟨by rw [HF.out, HB.out]; rfl, K2.out, fun h => (by rw [HN.out]; exact L2.out)⟩

set_option maxRecDepth 100000 in
set_option maxHeartbeats 1000000 in
theorem next_6s (e : Ev) (l : LayAt w S A c R d y bh bs bt bu n st) (he : e.op = 6) (g0 : ¬ e.who < 0) (g1 : ¬ st.r ≤ e.who) (g4 : 0 ≤ cnt S 6) (g5 : ¬ e.a < 0) (g6 : ¬ cnt S 6 ≤ e.a) (hwf : (Lit.int .i64 e.a).wf = true) (_hn : n < 100000) (_hb : ∀ j, 0 ≤ st.sent j ∧ st.sent j ≤ 100000 ∧ 0 ≤ st.took j ∧ st.took j ≤ 100000) (_hr : 0 ≤ st.r ∧ st.r ≤ 100000) (hs : e.sh = true) : Calls Try.prog 92 #[.pointer (some ⟨y, 0, none⟩), .agg (evC e)] w (NextPost S A c R d y bh bs bt bu n st e w) := by
  have O := Own.start w []
  have HL := Lib.hid l
  clear l
  have q0 : decide (e.who < 0) = false := decide_eq_false (by omega)
  have q1 : decide (st.r ≤ e.who) = false := decide_eq_false (by omega)
  have HF := Lib.hid (show okE S st e = bodyE st e by simp [okE, headE, he]; omega)
  have HB := Lib.hid (show bodyE st e = st.shut e.a by simp [bodyE, he, hs])
  have HN := Lib.hid (show nextE st e = st by simp [nextE, he, hs])
  unfold evC
  rw [he, hs]
  go_enter Try.func92, Try.ntmps92
  go_wp2_with (first
    | go_big_skip
    | (refine own_box 3 (#[Value.int .i64 e.who, .int .i64 6, .int .i64 e.a, .int .i64 e.v, .bool true]) O rfl rfl rfl rfl ?_; clear O; intro W a3 O; simp only [Act.put, List.setIfInBounds_toArray, List.set_cons_zero, List.set_cons_succ]))
  have c3 := Later.cell (O.get 0 rfl)
  have cy : ∀ p : Later W, p.1.cell? ⟨y, 5, none⟩ = some (.int .i64 st.r) := fun p => (HL.out.kept (O.keep.trans p.2 (by simp))).y.cell 5
  refine wp_quiet_later (by kernel_rfl) (by kernel_rfl) ?_
  repeat (first
    | go_big_quiet_skip
    | go_big_quiet_step (fail))
  refine wpQuiet_nil ?_
  intro _ hw
  obtain ⟨p', rfl⟩ := hw
  replace O := O.keeps p'.2
  clear c3 cy
  generalize p'.1 = W at O ⊢
  go_wp2
  have c3 := Later.cell (O.get 0 rfl)
  have cy : ∀ p : Later W, p.1.cell? ⟨y, 5, none⟩ = some (.int .i64 st.r) := fun p => (HL.out.kept (O.keep.trans p.2 (by simp))).y.cell 5
  generalize hcn : cnt S 6 = cn at *
  have HCN : ∀ u, Hid (Calls Try.prog 109 #[.agg (sysV S A c R d), .int .i64 6] u fun e w' => e = .returned (.int .i64 cn) ∧ Keeps u w' []) := fun u => Lib.hid (by rw [← hcn]; exact sharedT_any S A c R d u 6)
  have HCn := Lib.hid hcn
  clear hcn
  refine wp_quiet_later (by kernel_rfl) (by kernel_rfl) ?_
  repeat (first
    | go_big_quiet_skip
    | (refine wpQuiet_load_at (cs := sysV S A c R d) 31 rfl rfl rfl rfl (fun u hu => by obtain ⟨p', rfl⟩ := hu; exact (HL.out.kept (O.keep.trans p'.2 (by simp))).sysAt) Try.underlying27 rfl (by kernel_rfl) ?_; simp only [Act.put, List.setIfInBounds_toArray, List.set_cons_zero, List.set_cons_succ])
    | go_big_quiet_step ((go_at_call 109; exact later_of (HCN _).out)))
  refine wpQuiet_nil ?_
  intro _ hw
  obtain ⟨p', rfl⟩ := hw
  replace O := O.keeps p'.2
  clear c3 cy
  generalize p'.1 = W at O ⊢
  have c3 := (O.get 0 rfl).cell
  go_wp2
  clear c3
  have c3 := Later.cell (O.get 0 rfl)
  have cy : ∀ p : Later W, p.1.cell? ⟨y, 9, none⟩ = some (.map (some bu)) := fun p => (HL.out.kept (O.keep.trans p.2 (by simp))).y.cell 9
  have lk : ∀ p : Later W, (Instr.lookup 154 (.map (some bu)) (.int .i64 e.a) false).run Try.prog p.1 = .ok (.bool (st.shut e.a)) p.1 := fun p => by have := look_eqB (HL.out.kept (O.keep.trans p.2 (by simp))).u 154 Try.underlying154 e.a hwf; exact this
  refine wp_quiet_later (by kernel_rfl) (by kernel_rfl) ?_
  repeat (first
    | go_big_quiet_skip
    | go_big_quiet_step (fail))
  refine wpQuiet_nil ?_
  intro _ hw
  obtain ⟨p', rfl⟩ := hw
  replace O := O.keeps p'.2
  clear c3 cy lk
  generalize p'.1 = W at O ⊢
  go_wp2
  go_ret
  exact ⟨by rw [HF.out, HB.out]; rfl, O.keep.wide (by simp), fun h => (by rw [HN.out]; exact (HL.out.kept O.keep).mono (by omega))⟩

set_option maxRecDepth 100000 in
set_option maxHeartbeats 1000000 in
theorem next_6t (e : Ev) (l : LayAt w S A c R d y bh bs bt bu n st) (he : e.op = 6) (g0 : ¬ e.who < 0) (g1 : ¬ st.r ≤ e.who) (g4 : 0 ≤ cnt S 6) (g5 : ¬ e.a < 0) (g6 : ¬ cnt S 6 ≤ e.a) (hwf : (Lit.int .i64 e.a).wf = true) (hn : n < 100000) (hb : ∀ j, 0 ≤ st.sent j ∧ st.sent j ≤ 100000 ∧ 0 ≤ st.took j ∧ st.took j ≤ 100000) (_hr : 0 ≤ st.r ∧ st.r ≤ 100000) (hs : e.sh = false) : Calls Try.prog 92 #[.pointer (some ⟨y, 0, none⟩), .agg (evC e)] w (NextPost S A c R d y bh bs bt bu n st e w) := by
  have O := Own.start w []
  have HL := Lib.hid l
  clear l
  have q0 : decide (e.who < 0) = false := decide_eq_false (by omega)
  have q1 : decide (st.r ≤ e.who) = false := decide_eq_false (by omega)
  have HF := Lib.hid (show okE S st e = bodyE st e by simp [okE, headE, he]; omega)
  have HB := Lib.hid (show bodyE st e = decide (st.took e.a + 1 ≤ st.sent e.a) by simp [bodyE, he, hs])
  have HN := Lib.hid (show nextE st e = { st with took := updI st.took e.a (st.took e.a + 1) } by simp [nextE, he, hs])
  have r1 : IntKind.i64.wrap (st.took e.a + 1) = st.took e.a + 1 := IntWalk.i64_in _ (by have := hb e.a; omega)
  unfold evC
  rw [he, hs]
  go_enter Try.func92, Try.ntmps92
  go_wp2_with (first
    | go_big_skip
    | (refine own_box 3 (#[Value.int .i64 e.who, .int .i64 6, .int .i64 e.a, .int .i64 e.v, .bool false]) O rfl rfl rfl rfl ?_; clear O; intro W a3 O; simp only [Act.put, List.setIfInBounds_toArray, List.set_cons_zero, List.set_cons_succ]))
  have c3 := Later.cell (O.get 0 rfl)
  have cy : ∀ p : Later W, p.1.cell? ⟨y, 5, none⟩ = some (.int .i64 st.r) := fun p => (HL.out.kept (O.keep.trans p.2 (by simp))).y.cell 5
  refine wp_quiet_later (by kernel_rfl) (by kernel_rfl) ?_
  repeat (first
    | go_big_quiet_skip
    | go_big_quiet_step (fail))
  refine wpQuiet_nil ?_
  intro _ hw
  obtain ⟨p', rfl⟩ := hw
  replace O := O.keeps p'.2
  clear c3 cy
  generalize p'.1 = W at O ⊢
  go_wp2
  have c3 := Later.cell (O.get 0 rfl)
  have cy : ∀ p : Later W, p.1.cell? ⟨y, 5, none⟩ = some (.int .i64 st.r) := fun p => (HL.out.kept (O.keep.trans p.2 (by simp))).y.cell 5
  generalize hcn : cnt S 6 = cn at *
  have HCN : ∀ u, Hid (Calls Try.prog 109 #[.agg (sysV S A c R d), .int .i64 6] u fun e w' => e = .returned (.int .i64 cn) ∧ Keeps u w' []) := fun u => Lib.hid (by rw [← hcn]; exact sharedT_any S A c R d u 6)
  have HCn := Lib.hid hcn
  clear hcn
  refine wp_quiet_later (by kernel_rfl) (by kernel_rfl) ?_
  repeat (first
    | go_big_quiet_skip
    | (refine wpQuiet_load_at (cs := sysV S A c R d) 31 rfl rfl rfl rfl (fun u hu => by obtain ⟨p', rfl⟩ := hu; exact (HL.out.kept (O.keep.trans p'.2 (by simp))).sysAt) Try.underlying27 rfl (by kernel_rfl) ?_; simp only [Act.put, List.setIfInBounds_toArray, List.set_cons_zero, List.set_cons_succ])
    | go_big_quiet_step ((go_at_call 109; exact later_of (HCN _).out)))
  refine wpQuiet_nil ?_
  intro _ hw
  obtain ⟨p', rfl⟩ := hw
  replace O := O.keeps p'.2
  clear c3 cy
  generalize p'.1 = W at O ⊢
  have c3 := (O.get 0 rfl).cell
  go_wp2
  clear c3
  have c3 := Later.cell (O.get 0 rfl)
  have cy : ∀ p : Later W, p.1.cell? ⟨y, 8, none⟩ = some (.map (some bt)) := fun p => (HL.out.kept (O.keep.trans p.2 (by simp))).y.cell 8
  have lk : ∀ p : Later W, (Instr.lookup 117 (.map (some bt)) (.int .i64 e.a) false).run Try.prog p.1 = .ok (.int .i64 (st.took e.a)) p.1 := fun p => look_eqI (HL.out.kept (O.keep.trans p.2 (by simp))).t 117 Try.underlying117 e.a hwf
  refine wp_quiet_tail_later 8 (by kernel_rfl) (by kernel_rfl) ?_
  simp only [List.take, List.drop]
  repeat (first
    | go_big_quiet_skip
    | go_big_quiet_step (fail))
  refine wpQuiet_nil ?_
  intro _ hw
  obtain ⟨p', rfl⟩ := hw
  replace O := O.keeps p'.2
  clear c3 cy lk
  generalize p'.1 = W at O ⊢
  refine map_storeI (HL.out.kept O.keep).t 117 Try.underlying117 rfl rfl rfl rfl hwf rfl (WalkArith.wf_i64 (by have := hb e.a; omega)) (by unfold maxLen; omega) ?_
  intro u K M
  simp only [Act.put]
  have B3 := (O.get 0 rfl).keeps K (by simpa using (HL.out.kept O.keep).t.not_blk (O.get 0 rfl))
  have L2 := Lib.hid ((HL.out.kept O.keep).setT K M)
  have K2 := Lib.hid ((O.keep.wide (L' := [y, bh, bs, bt, bu]) (by simp)).trans (K.wide (L' := [y, bh, bs, bt, bu]) (by simp)) (fun b hb _ => hb))
  clear M
  go_wp2
  have c3 := Later.cell B3
  have cy1 : ∀ p : Later u, p.1.cell? ⟨y, 8, none⟩ = some (.map (some bt)) := fun p => (L2.out.kept p.2).y.cell 8
  have cy2 : ∀ p : Later u, p.1.cell? ⟨y, 7, none⟩ = some (.map (some bs)) := fun p => (L2.out.kept p.2).y.cell 7
  have lk1 : ∀ p : Later u, (Instr.lookup 117 (.map (some bt)) (.int .i64 e.a) false).run Try.prog p.1 = .ok (.int .i64 (st.took e.a + 1)) p.1 := fun p => by simpa using look_eqI (L2.out.kept p.2).t 117 Try.underlying117 e.a hwf
  have lk2 : ∀ p : Later u, (Instr.lookup 117 (.map (some bs)) (.int .i64 e.a) false).run Try.prog p.1 = .ok (.int .i64 (st.sent e.a)) p.1 := fun p => look_eqI (L2.out.kept p.2).s 117 Try.underlying117 e.a hwf
  refine wp_quiet_later (by kernel_rfl) (by kernel_rfl) ?_
  repeat (first
    | go_big_quiet_skip
    | go_big_quiet_step (fail))
  refine wpQuiet_nil ?_
  intro _ hw
  obtain ⟨p', rfl⟩ := hw
  have K3 := Lib.hid (K2.out.trans p'.2 (by simp))
  have L3 := Lib.hid (L2.out.kept p'.2)
  clear c3 cy1 cy2 lk1 lk2 L2 K2
  generalize p'.1 = W3 at K3 L3 ⊢
  go_wp2
  go_ret
  exact ⟨by rw [HF.out, HB.out]; rfl, K3.out, fun _ => by rw [HN.out]; exact L3.out⟩

set_option maxRecDepth 100000 in
set_option maxHeartbeats 1000000 in
theorem next_o0 (e : Ev) (l : LayAt w S A c R d y bh bs bt bu n st) (g0 : ¬ e.who < 0) (g1 : ¬ st.r ≤ e.who) (g2 : ¬ e.op < 1) (g3 : ¬ 16 < e.op) (g4 : cnt S e.op < 0) (_hwf : (Lit.int .i64 e.a).wf = true) (_hn : n < 100000) (_hb : ∀ j, 0 ≤ st.sent j ∧ st.sent j ≤ 100000 ∧ 0 ≤ st.took j ∧ st.took j ≤ 100000) (_hr : 0 ≤ st.r ∧ st.r ≤ 100000) (h5 : ¬ e.op = 5) (h6 : ¬ e.op = 6) (h7 : ¬ e.op = 7) (h8 : ¬ e.op = 8) (h9 : ¬ e.op = 9) (h14 : ¬ e.op = 14) : Calls Try.prog 92 #[.pointer (some ⟨y, 0, none⟩), .agg (evC e)] w (NextPost S A c R d y bh bs bt bu n st e w) := by
  have O := Own.start w []
  have HL := Lib.hid l
  clear l
  have q0 : decide (e.who < 0) = false := decide_eq_false (by omega)
  have q1 : decide (st.r ≤ e.who) = false := decide_eq_false (by omega)
  have q2 : decide (e.op < 1) = false := decide_eq_false (by omega)
  have q3 : decide (16 < e.op) = false := decide_eq_false (by omega)
  have HF := Lib.hid (show okE S st e = bodyE st e by simp [okE, headE]; omega)
  have HB := Lib.hid (show bodyE st e = true by simp [bodyE, h6, h8, h14])
  have HN := Lib.hid (show nextE st e = st by simp [nextE, h5, h6, h7, h8, h9, h14])
  unfold evC

  go_enter Try.func92, Try.ntmps92
  go_wp2_with (first
    | go_big_skip
    | (refine own_box 3 (#[Value.int .i64 e.who, .int .i64 e.op, .int .i64 e.a, .int .i64 e.v, .bool e.sh]) O rfl rfl rfl rfl ?_; clear O; intro W a3 O; simp only [Act.put, List.setIfInBounds_toArray, List.set_cons_zero, List.set_cons_succ]))
  have c3 := Later.cell (O.get 0 rfl)
  have cy : ∀ p : Later W, p.1.cell? ⟨y, 5, none⟩ = some (.int .i64 st.r) := fun p => (HL.out.kept (O.keep.trans p.2 (by simp))).y.cell 5
  refine wp_quiet_later (by kernel_rfl) (by kernel_rfl) ?_
  repeat (first
    | go_big_quiet_skip
    | go_big_quiet_step (fail))
  refine wpQuiet_nil ?_
  intro _ hw
  obtain ⟨p', rfl⟩ := hw
  replace O := O.keeps p'.2
  clear c3 cy
  generalize p'.1 = W at O ⊢
  go_wp2
  have c3 := Later.cell (O.get 0 rfl)
  have cy : ∀ p : Later W, p.1.cell? ⟨y, 5, none⟩ = some (.int .i64 st.r) := fun p => (HL.out.kept (O.keep.trans p.2 (by simp))).y.cell 5
  generalize hcn : cnt S e.op = cn at *
  have HCN : ∀ u, Hid (Calls Try.prog 109 #[.agg (sysV S A c R d), .int .i64 e.op] u fun e w' => e = .returned (.int .i64 cn) ∧ Keeps u w' []) := fun u => Lib.hid (by rw [← hcn]; exact sharedT_any S A c R d u e.op)
  have HCn := Lib.hid hcn
  clear hcn
  refine wp_quiet_later (by kernel_rfl) (by kernel_rfl) ?_
  repeat (first
    | go_big_quiet_skip
    | (refine wpQuiet_load_at (cs := sysV S A c R d) 31 rfl rfl rfl rfl (fun u hu => by obtain ⟨p', rfl⟩ := hu; exact (HL.out.kept (O.keep.trans p'.2 (by simp))).sysAt) Try.underlying27 rfl (by kernel_rfl) ?_; simp only [Act.put, List.setIfInBounds_toArray, List.set_cons_zero, List.set_cons_succ])
    | go_big_quiet_step ((go_at_call 109; exact later_of (HCN _).out)))
  refine wpQuiet_nil ?_
  intro _ hw
  obtain ⟨p', rfl⟩ := hw
  replace O := O.keeps p'.2
  clear c3 cy
  generalize p'.1 = W at O ⊢
  have c3 := (O.get 0 rfl).cell
  go_wp2
  go_ret
  exact ⟨by rw [HF.out, HB.out]; rfl, O.keep.wide (by simp), fun h => (by rw [HN.out]; exact (HL.out.kept O.keep).mono (by omega))⟩

set_option maxRecDepth 100000 in
set_option maxHeartbeats 1000000 in
theorem next_o1 (e : Ev) (l : LayAt w S A c R d y bh bs bt bu n st) (g0 : ¬ e.who < 0) (g1 : ¬ st.r ≤ e.who) (g2 : ¬ e.op < 1) (g3 : ¬ 16 < e.op) (g4 : 0 ≤ cnt S e.op) (g5 : ¬ e.a < 0) (g6 : ¬ cnt S e.op ≤ e.a) (_hwf : (Lit.int .i64 e.a).wf = true) (_hn : n < 100000) (_hb : ∀ j, 0 ≤ st.sent j ∧ st.sent j ≤ 100000 ∧ 0 ≤ st.took j ∧ st.took j ≤ 100000) (_hr : 0 ≤ st.r ∧ st.r ≤ 100000) (h5 : ¬ e.op = 5) (h6 : ¬ e.op = 6) (h7 : ¬ e.op = 7) (h8 : ¬ e.op = 8) (h9 : ¬ e.op = 9) (h14 : ¬ e.op = 14) : Calls Try.prog 92 #[.pointer (some ⟨y, 0, none⟩), .agg (evC e)] w (NextPost S A c R d y bh bs bt bu n st e w) := by
  have O := Own.start w []
  have HL := Lib.hid l
  clear l
  have q0 : decide (e.who < 0) = false := decide_eq_false (by omega)
  have q1 : decide (st.r ≤ e.who) = false := decide_eq_false (by omega)
  have q2 : decide (e.op < 1) = false := decide_eq_false (by omega)
  have q3 : decide (16 < e.op) = false := decide_eq_false (by omega)
  have HF := Lib.hid (show okE S st e = bodyE st e by simp [okE, headE]; omega)
  have HB := Lib.hid (show bodyE st e = true by simp [bodyE, h6, h8, h14])
  have HN := Lib.hid (show nextE st e = st by simp [nextE, h5, h6, h7, h8, h9, h14])
  unfold evC

  go_enter Try.func92, Try.ntmps92
  go_wp2_with (first
    | go_big_skip
    | (refine own_box 3 (#[Value.int .i64 e.who, .int .i64 e.op, .int .i64 e.a, .int .i64 e.v, .bool e.sh]) O rfl rfl rfl rfl ?_; clear O; intro W a3 O; simp only [Act.put, List.setIfInBounds_toArray, List.set_cons_zero, List.set_cons_succ]))
  have c3 := Later.cell (O.get 0 rfl)
  have cy : ∀ p : Later W, p.1.cell? ⟨y, 5, none⟩ = some (.int .i64 st.r) := fun p => (HL.out.kept (O.keep.trans p.2 (by simp))).y.cell 5
  refine wp_quiet_later (by kernel_rfl) (by kernel_rfl) ?_
  repeat (first
    | go_big_quiet_skip
    | go_big_quiet_step (fail))
  refine wpQuiet_nil ?_
  intro _ hw
  obtain ⟨p', rfl⟩ := hw
  replace O := O.keeps p'.2
  clear c3 cy
  generalize p'.1 = W at O ⊢
  go_wp2
  have c3 := Later.cell (O.get 0 rfl)
  have cy : ∀ p : Later W, p.1.cell? ⟨y, 5, none⟩ = some (.int .i64 st.r) := fun p => (HL.out.kept (O.keep.trans p.2 (by simp))).y.cell 5
  generalize hcn : cnt S e.op = cn at *
  have HCN : ∀ u, Hid (Calls Try.prog 109 #[.agg (sysV S A c R d), .int .i64 e.op] u fun e w' => e = .returned (.int .i64 cn) ∧ Keeps u w' []) := fun u => Lib.hid (by rw [← hcn]; exact sharedT_any S A c R d u e.op)
  have HCn := Lib.hid hcn
  clear hcn
  refine wp_quiet_later (by kernel_rfl) (by kernel_rfl) ?_
  repeat (first
    | go_big_quiet_skip
    | (refine wpQuiet_load_at (cs := sysV S A c R d) 31 rfl rfl rfl rfl (fun u hu => by obtain ⟨p', rfl⟩ := hu; exact (HL.out.kept (O.keep.trans p'.2 (by simp))).sysAt) Try.underlying27 rfl (by kernel_rfl) ?_; simp only [Act.put, List.setIfInBounds_toArray, List.set_cons_zero, List.set_cons_succ])
    | go_big_quiet_step ((go_at_call 109; exact later_of (HCN _).out)))
  refine wpQuiet_nil ?_
  intro _ hw
  obtain ⟨p', rfl⟩ := hw
  replace O := O.keeps p'.2
  clear c3 cy
  generalize p'.1 = W at O ⊢
  have c3 := (O.get 0 rfl).cell
  go_wp2
  go_ret
  exact ⟨by rw [HF.out, HB.out]; rfl, O.keep.wide (by simp), fun h => (by rw [HN.out]; exact (HL.out.kept O.keep).mono (by omega))⟩

theorem cnt_le (hh : headB S = true) (op : Int) : cnt S op ≤ 64 := by
  obtain ⟨h0, h1, h2, h3, h4, h5⟩ := (headB_iff S).1 hh
  rw [shB_iff] at h3 h4 h5
  unfold cnt
  repeat' split
  all_goals omega
/-- (*lay).next of trace. -/
theorem next_any (hh : headB S = true) (e : Ev) (l : LayAt w S A c R d y bh bs bt bu n st) (hwf : (Lit.int .i64 e.a).wf = true) (hn : n < 100000) (hb : ∀ j, 0 ≤ st.sent j ∧ st.sent j ≤ 100000 ∧ 0 ≤ st.took j ∧ st.took j ≤ 100000) (hr : 0 ≤ st.r ∧ st.r ≤ 100000) :
    Calls Try.prog 92 #[.pointer (some ⟨y, 0, none⟩), .agg (evC e)] w (NextPost S A c R d y bh bs bt bu n st e w) := by
  obtain ⟨h0, h1, h2, h3, h4, h5⟩ := (headB_iff S).1 hh
  rw [shB_iff] at h3 h4 h5
  by_cases g0 : e.who < 0
  · exact next_bad0 e l g0
  by_cases g1 : st.r ≤ e.who
  · exact next_bad1 e l g0 g1
  by_cases g2 : e.op < 1
  · exact next_bad2 e l g0 g1 g2
  by_cases g3 : 16 < e.op
  · exact next_bad3 e l g0 g1 g2 g3
  by_cases g4 : cnt S e.op < 0
  · exact next_o0 e l g0 g1 g2 g3 g4 hwf hn hb hr (fun h => by rw [h] at g4; simp [cnt] at g4; omega) (fun h => by rw [h] at g4; simp [cnt] at g4; omega) (fun h => by rw [h] at g4; simp [cnt] at g4; omega) (fun h => by rw [h] at g4; simp [cnt] at g4; omega) (fun h => by rw [h] at g4; simp [cnt] at g4; omega) (fun h => by rw [h] at g4; simp [cnt] at g4; omega)
  by_cases g5 : e.a < 0
  · exact next_bada0 e l g0 g1 g2 g3 (by omega) g5
  by_cases g6 : cnt S e.op ≤ e.a
  · exact next_bada1 e l g0 g1 g2 g3 (by omega) g5 g6
  by_cases o5 : e.op = 5
  · rw [o5] at g4 g6; exact next_5 e l o5 g0 g1 (by omega) g5 g6 hwf hn hb hr
  by_cases o6 : e.op = 6
  · rw [o6] at g4 g6
    cases hs : e.sh with
    | true => exact next_6s e l o6 g0 g1 (by omega) g5 g6 hwf hn hb hr hs
    | false => exact next_6t e l o6 g0 g1 (by omega) g5 g6 hwf hn hb hr hs
  by_cases o7 : e.op = 7
  · rw [o7] at g4 g6; exact next_7 e l o7 g0 g1 (by omega) g5 g6 hwf hn hb hr
  by_cases o8 : e.op = 8
  · rw [o8] at g4 g6
    cases hs : st.held e.a with
    | true => exact next_8a e l o8 g0 g1 (by omega) g5 g6 hwf hn hb hr hs
    | false => exact next_8b e l o8 g0 g1 (by omega) g5 g6 hwf hn hb hr hs
  by_cases o9 : e.op = 9
  · rw [o9] at g4 g6; exact next_9 e l o9 g0 g1 (by omega) g5 g6 hwf hn hb hr
  by_cases o14 : e.op = 14
  · rw [o14] at g4 g6
    by_cases v0 : e.v = 0
    · exact next_14a e l o14 g0 g1 (by omega) g5 g6 hwf hn hb hr v0
    by_cases v1 : e.v = st.r
    · by_cases v2 : 512 ≤ st.r
      · exact next_14c e l o14 g0 g1 (by omega) g5 g6 hwf hn hb hr v0 v1 v2
      · exact next_14d e l o14 g0 g1 (by omega) g5 g6 hwf hn hb hr v0 v1 v2
    · exact next_14b e l o14 g0 g1 (by omega) g5 g6 hwf hn hb hr v0 v1
  exact next_o1 e l g0 g1 g2 g3 (by omega) g5 g6 hwf hn hb hr o5 o6 o7 o8 o9 o14
end
end Go.Proofs.Ytakmcpadkanggaa

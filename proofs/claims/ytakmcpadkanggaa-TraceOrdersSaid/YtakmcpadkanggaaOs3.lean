/-
  Part 3 of what this claim rests on.
-/
import Derived.Carry
import Derived.Handy
import Derived.Deep.OwnRows
import Derived.Great.BuildSlice
import Derived.Lib.SlicesCompact
import Derived.Test.YtakmcpadkanggaaOs2
namespace Go.Proofs.Ytakmcpadkanggaa
open Go.RowKit Go.Maps
def layV (S : Sys) (A : Option Addr) (c : Nat) (R : Option Addr) (d : Nat) (r : Int) (bh bs bt bu : Nat) : Array Value := #[.slice A S.np c, .slice R S.nr d, .int .i64 S.gr, .int .i64 S.lk, .int .i64 S.ce, .int .i64 r, .map (some bh), .map (some bs), .map (some bt), .map (some bu)]
/-- The struct and its four maps. -/
structure LayAt (W : World) (S : Sys) (A : Option Addr) (c : Nat) (R : Option Addr) (d y bh bs bt bu n : Nat) (st : St) : Prop where
  y : Blk W y 156 (layV S A c R d st.r bh bs bt bu)
  h : MapB W bh n st.held
  s : MapI W bs n st.sent
  t : MapI W bt n st.took
  u : MapB W bu n st.shut
  ne : bh ≠ bs ∧ bh ≠ bt ∧ bh ≠ bu ∧ bs ≠ bt ∧ bs ≠ bu ∧ bt ≠ bu
section
variable {w u W : World} {S : Sys} {A : Option Addr} {c : Nat} {R : Option Addr} {d y bh bs bt bu n m : Nat} {st : St}
theorem MapI.mono {b : Nat} {f : Int → Int} (h : MapI w b n f) (k : n ≤ m) : MapI w b m f := by obtain ⟨D, h1, h2⟩ := h; exact ⟨D, h1.mono k, h2⟩
theorem MapB.mono {b : Nat} {f : Int → Bool} (h : MapB w b n f) (k : n ≤ m) : MapB w b m f := by obtain ⟨D, h1, h2⟩ := h; exact ⟨D, h1.mono k, h2⟩
theorem LayAt.kept (l : LayAt w S A c R d y bh bs bt bu n st) (k : Keeps w u []) : LayAt u S A c R d y bh bs bt bu n st :=
  ⟨l.y.keeps k (by simp), l.h.keeps k (by simp), l.s.keeps k (by simp), l.t.keeps k (by simp), l.u.keeps k (by simp), l.ne⟩
theorem LayAt.mono (l : LayAt w S A c R d y bh bs bt bu n st) (k : n ≤ m) : LayAt w S A c R d y bh bs bt bu m st := ⟨l.y, l.h.mono k, l.s.mono k, l.t.mono k, l.u.mono k, l.ne⟩
theorem LayAt.sysAt (l : LayAt w S A c R d y bh bs bt bu n st) (j : Nat) (hj : j < (sysV S A c R d).size) : w.cell? ((⟨y, 0, none⟩ : Addr).add j) = (sysV S A c R d)[j]? := by
  rw [add_zero_, l.y.cell]
  have hj' : j < 5 := hj
  match j, hj' with
  | 0, _ => rfl
  | 1, _ => rfl
  | 2, _ => rfl
  | 3, _ => rfl
  | 4, _ => rfl
theorem LayAt.yne (l : LayAt w S A c R d y bh bs bt bu n st) : y ≠ bh ∧ y ≠ bs ∧ y ≠ bt ∧ y ≠ bu := ⟨l.h.not_blk l.y, l.s.not_blk l.y, l.t.not_blk l.y, l.u.not_blk l.y⟩
theorem LayAt.setY (l : LayAt w S A c R d y bh bs bt bu n st) {r : Int} (k : Keeps w u [y]) (b : Blk u y 156 (layV S A c R d r bh bs bt bu)) : LayAt u S A c R d y bh bs bt bu n { st with r := r } := by
  obtain ⟨h1, h2, h3, h4⟩ := l.yne
  exact ⟨b, l.h.keeps k (by simpa using h1.symm), l.s.keeps k (by simpa using h2.symm), l.t.keeps k (by simpa using h3.symm), l.u.keeps k (by simpa using h4.symm), l.ne⟩
theorem LayAt.setH (l : LayAt w S A c R d y bh bs bt bu n st) {f : Int → Bool} (k : Keeps w u [bh]) (b : MapB u bh (n + 1) f) : LayAt u S A c R d y bh bs bt bu (n + 1) { st with held := f } := by
  obtain ⟨h1, h2, h3, h4⟩ := l.yne
  obtain ⟨n1, n2, n3, n4, n5, n6⟩ := l.ne
  exact ⟨l.y.keeps k (by simpa using h1), b, (l.s.keeps k (by simpa using n1.symm)).mono (by omega), (l.t.keeps k (by simpa using n2.symm)).mono (by omega), (l.u.keeps k (by simpa using n3.symm)).mono (by omega), l.ne⟩
theorem LayAt.setS (l : LayAt w S A c R d y bh bs bt bu n st) {f : Int → Int} (k : Keeps w u [bs]) (b : MapI u bs (n + 1) f) : LayAt u S A c R d y bh bs bt bu (n + 1) { st with sent := f } := by
  obtain ⟨h1, h2, h3, h4⟩ := l.yne
  obtain ⟨n1, n2, n3, n4, n5, n6⟩ := l.ne
  exact ⟨l.y.keeps k (by simpa using h2), (l.h.keeps k (by simpa using n1)).mono (by omega), b, (l.t.keeps k (by simpa using n4.symm)).mono (by omega), (l.u.keeps k (by simpa using n5.symm)).mono (by omega), l.ne⟩
theorem LayAt.setT (l : LayAt w S A c R d y bh bs bt bu n st) {f : Int → Int} (k : Keeps w u [bt]) (b : MapI u bt (n + 1) f) : LayAt u S A c R d y bh bs bt bu (n + 1) { st with took := f } := by
  obtain ⟨h1, h2, h3, h4⟩ := l.yne
  obtain ⟨n1, n2, n3, n4, n5, n6⟩ := l.ne
  exact ⟨l.y.keeps k (by simpa using h3), (l.h.keeps k (by simpa using n2)).mono (by omega), (l.s.keeps k (by simpa using n4)).mono (by omega), b, (l.u.keeps k (by simpa using n6.symm)).mono (by omega), l.ne⟩
theorem LayAt.setU (l : LayAt w S A c R d y bh bs bt bu n st) {f : Int → Bool} (k : Keeps w u [bu]) (b : MapB u bu (n + 1) f) : LayAt u S A c R d y bh bs bt bu (n + 1) { st with shut := f } := by
  obtain ⟨h1, h2, h3, h4⟩ := l.yne
  obtain ⟨n1, n2, n3, n4, n5, n6⟩ := l.ne
  exact ⟨l.y.keeps k (by simpa using h4), (l.h.keeps k (by simpa using n3)).mono (by omega), (l.s.keeps k (by simpa using n5)).mono (by omega), (l.t.keeps k (by simpa using n6)).mono (by omega), b, l.ne⟩
set_option maxRecDepth 10000 in
theorem look_eqI {b : Nat} {f : Int → Int} (m : MapI w b n f) (T : TypeId) (ht : Try.prog.underlying T = some (.map 3 3)) (k : Int) (hk : (Lit.int .i64 k).wf = true) : (Instr.lookup T (.map (some b)) (.int .i64 k) false).run Try.prog w = .ok (.int .i64 (f k)) w := by
  obtain ⟨D, h1, h2⟩ := m
  obtain ⟨x, hr, hat, _⟩ := h1.lookup_int key3 ht Try.underlying3 (zero3 w) (keyOf_int_mk Try.underlying3 hk)
  rw [h2] at hat
  injection hat with e
  injection e with _ e
  rw [hr, e]
set_option maxRecDepth 10000 in
theorem look_eqB {b : Nat} {f : Int → Bool} (m : MapB w b n f) (T : TypeId) (ht : Try.prog.underlying T = some (.map 3 4)) (k : Int) (hk : (Lit.int .i64 k).wf = true) : (Instr.lookup T (.map (some b)) (.int .i64 k) false).run Try.prog w = .ok (.bool (f k)) w := by
  obtain ⟨D, h1, h2⟩ := m
  obtain ⟨v, ps, hrun, hR⟩ := h1.lookup (e := 4) key3 ht (zero4 w) (plainElem_bool Try.underlying4 false) (keyOf_int_mk Try.underlying3 hk)
  rw [h2] at hR
  have hv : v = .bool (f k) := by
    unfold plainElem at hR
    rw [Try.underlying4] at hR
    cases v <;> simp at hR
    rw [hR.1]
  rw [hrun, hv]
end
/-- What next comes to. -/
def NextPost (S : Sys) (A : Option Addr) (c : Nat) (R : Option Addr) (d y bh bs bt bu n : Nat) (st : St) (e : Ev) (w : World) (x : Ending) (w' : World) : Prop :=
  x = .returned (.bool (okE S st e)) ∧ Keeps w w' [y, bh, bs, bt, bu] ∧ (okE S st e = true → LayAt w' S A c R d y bh bs bt bu (n + 1) (nextE st e))
theorem Keeps.wide {w u : World} {L L' : List Nat} (k : Keeps w u L) (h : ∀ b ∈ L, b ∈ L') : Keeps w u L' := ⟨k.os, k.tape, k.output, k.size, fun b hb hn => k.block b hb fun hm => hn (h b hm)⟩
section
variable {w : World} {S : Sys} {A : Option Addr} {c : Nat} {R : Option Addr} {d y bh bs bt bu n : Nat} {st : St}
set_option maxRecDepth 100000 in
set_option maxHeartbeats 1000000 in
theorem next_bad0 (e : Ev) (l : LayAt w S A c R d y bh bs bt bu n st)  (g0 : e.who < 0) : Calls Try.prog 92 #[.pointer (some ⟨y, 0, none⟩), .agg (evC e)] w (NextPost S A c R d y bh bs bt bu n st e w) := by
  have O := Own.start w []
  have HL := Lib.hid l
  clear l
  have q0 : decide (e.who < 0) = true := decide_eq_true (by omega)
  have HF := Lib.hid (show okE S st e = false by simp [okE, headE]; omega)
  unfold evC

  go_enter Try.func92, Try.ntmps92
  go_wp2_with (first
    | go_big_skip
    | (refine own_box 3 (#[Value.int .i64 e.who, .int .i64 e.op, .int .i64 e.a, .int .i64 e.v, .bool e.sh]) O rfl rfl rfl rfl ?_; clear O; intro W a3 O; simp only [Act.put, List.setIfInBounds_toArray, List.set_cons_zero, List.set_cons_succ]))
  have c3 := Later.cell (O.get 0 rfl)
  have cy : ∀ p : Later W, p.1.cell? ⟨y, 5, none⟩ = some (.int .i64 st.r) := fun p => (HL.out.kept (O.keep.trans p.2 (by simp))).y.cell 5
  refine wp_quiet_later (by kernel_rfl) (by kernel_rfl) ?_
  repeat (first
    | go_big_quiet_skip
    | go_big_quiet_step (fail))
  refine wpQuiet_nil ?_
  intro _ hw
  obtain ⟨p', rfl⟩ := hw
  replace O := O.keeps p'.2
  clear c3 cy
  generalize p'.1 = W at O ⊢
  go_wp2
  go_ret
  exact ⟨by rw [HF.out]; rfl, O.keep.wide (by simp), fun h => by rw [HF.out] at h; cases h⟩
set_option maxRecDepth 100000 in
set_option maxHeartbeats 1000000 in
theorem next_bad1 (e : Ev) (l : LayAt w S A c R d y bh bs bt bu n st) (g0 : ¬ e.who < 0) (g1 : st.r ≤ e.who) : Calls Try.prog 92 #[.pointer (some ⟨y, 0, none⟩), .agg (evC e)] w (NextPost S A c R d y bh bs bt bu n st e w) := by
  have O := Own.start w []
  have HL := Lib.hid l
  clear l
  have q0 : decide (e.who < 0) = false := decide_eq_false (by omega)
  have q1 : decide (st.r ≤ e.who) = true := decide_eq_true (by omega)
  have HF := Lib.hid (show okE S st e = false by simp [okE, headE]; omega)
  unfold evC

  go_enter Try.func92, Try.ntmps92
  go_wp2_with (first
    | go_big_skip
    | (refine own_box 3 (#[Value.int .i64 e.who, .int .i64 e.op, .int .i64 e.a, .int .i64 e.v, .bool e.sh]) O rfl rfl rfl rfl ?_; clear O; intro W a3 O; simp only [Act.put, List.setIfInBounds_toArray, List.set_cons_zero, List.set_cons_succ]))
  have c3 := Later.cell (O.get 0 rfl)
  have cy : ∀ p : Later W, p.1.cell? ⟨y, 5, none⟩ = some (.int .i64 st.r) := fun p => (HL.out.kept (O.keep.trans p.2 (by simp))).y.cell 5
  refine wp_quiet_later (by kernel_rfl) (by kernel_rfl) ?_
  repeat (first
    | go_big_quiet_skip
    | go_big_quiet_step (fail))
  refine wpQuiet_nil ?_
  intro _ hw
  obtain ⟨p', rfl⟩ := hw
  replace O := O.keeps p'.2
  clear c3 cy
  generalize p'.1 = W at O ⊢
  go_wp2
  go_ret
  exact ⟨by rw [HF.out]; rfl, O.keep.wide (by simp), fun h => by rw [HF.out] at h; cases h⟩
set_option maxRecDepth 100000 in
set_option maxHeartbeats 1000000 in
theorem next_bad2 (e : Ev) (l : LayAt w S A c R d y bh bs bt bu n st) (g0 : ¬ e.who < 0) (g1 : ¬ st.r ≤ e.who) (g2 : e.op < 1) : Calls Try.prog 92 #[.pointer (some ⟨y, 0, none⟩), .agg (evC e)] w (NextPost S A c R d y bh bs bt bu n st e w) := by
  have O := Own.start w []
  have HL := Lib.hid l
  clear l
  have q0 : decide (e.who < 0) = false := decide_eq_false (by omega)
  have q1 : decide (st.r ≤ e.who) = false := decide_eq_false (by omega)
  have q2 : decide (e.op < 1) = true := decide_eq_true (by omega)
  have HF := Lib.hid (show okE S st e = false by simp [okE, headE]; omega)
  unfold evC

  go_enter Try.func92, Try.ntmps92
  go_wp2_with (first
    | go_big_skip
    | (refine own_box 3 (#[Value.int .i64 e.who, .int .i64 e.op, .int .i64 e.a, .int .i64 e.v, .bool e.sh]) O rfl rfl rfl rfl ?_; clear O; intro W a3 O; simp only [Act.put, List.setIfInBounds_toArray, List.set_cons_zero, List.set_cons_succ]))
  have c3 := Later.cell (O.get 0 rfl)
  have cy : ∀ p : Later W, p.1.cell? ⟨y, 5, none⟩ = some (.int .i64 st.r) := fun p => (HL.out.kept (O.keep.trans p.2 (by simp))).y.cell 5
  refine wp_quiet_later (by kernel_rfl) (by kernel_rfl) ?_
  repeat (first
    | go_big_quiet_skip
    | go_big_quiet_step (fail))
  refine wpQuiet_nil ?_
  intro _ hw
  obtain ⟨p', rfl⟩ := hw
  replace O := O.keeps p'.2
  clear c3 cy
  generalize p'.1 = W at O ⊢
  go_wp2
  go_ret
  exact ⟨by rw [HF.out]; rfl, O.keep.wide (by simp), fun h => by rw [HF.out] at h; cases h⟩
set_option maxRecDepth 100000 in
set_option maxHeartbeats 1000000 in
theorem next_bad3 (e : Ev) (l : LayAt w S A c R d y bh bs bt bu n st) (g0 : ¬ e.who < 0) (g1 : ¬ st.r ≤ e.who) (g2 : ¬ e.op < 1) (g3 : 16 < e.op) : Calls Try.prog 92 #[.pointer (some ⟨y, 0, none⟩), .agg (evC e)] w (NextPost S A c R d y bh bs bt bu n st e w) := by
  have O := Own.start w []
  have HL := Lib.hid l
  clear l
  have q0 : decide (e.who < 0) = false := decide_eq_false (by omega)
  have q1 : decide (st.r ≤ e.who) = false := decide_eq_false (by omega)
  have q2 : decide (e.op < 1) = false := decide_eq_false (by omega)
  have q3 : decide (16 < e.op) = true := decide_eq_true (by omega)
  have HF := Lib.hid (show okE S st e = false by simp [okE, headE]; omega)
  unfold evC

  go_enter Try.func92, Try.ntmps92
  go_wp2_with (first
    | go_big_skip
    | (refine own_box 3 (#[Value.int .i64 e.who, .int .i64 e.op, .int .i64 e.a, .int .i64 e.v, .bool e.sh]) O rfl rfl rfl rfl ?_; clear O; intro W a3 O; simp only [Act.put, List.setIfInBounds_toArray, List.set_cons_zero, List.set_cons_succ]))
  have c3 := Later.cell (O.get 0 rfl)
  have cy : ∀ p : Later W, p.1.cell? ⟨y, 5, none⟩ = some (.int .i64 st.r) := fun p => (HL.out.kept (O.keep.trans p.2 (by simp))).y.cell 5
  refine wp_quiet_later (by kernel_rfl) (by kernel_rfl) ?_
  repeat (first
    | go_big_quiet_skip
    | go_big_quiet_step (fail))
  refine wpQuiet_nil ?_
  intro _ hw
  obtain ⟨p', rfl⟩ := hw
  replace O := O.keeps p'.2
  clear c3 cy
  generalize p'.1 = W at O ⊢
  go_wp2
  go_ret
  exact ⟨by rw [HF.out]; rfl, O.keep.wide (by simp), fun h => by rw [HF.out] at h; cases h⟩
set_option maxRecDepth 100000 in
set_option maxHeartbeats 1000000 in
theorem next_bada0 (e : Ev) (l : LayAt w S A c R d y bh bs bt bu n st) (g0 : ¬ e.who < 0) (g1 : ¬ st.r ≤ e.who) (g2 : ¬ e.op < 1) (g3 : ¬ 16 < e.op) (g4 : 0 ≤ cnt S e.op) (g5 : e.a < 0) : Calls Try.prog 92 #[.pointer (some ⟨y, 0, none⟩), .agg (evC e)] w (NextPost S A c R d y bh bs bt bu n st e w) := by
  have O := Own.start w []
  have HL := Lib.hid l
  clear l
  have q0 : decide (e.who < 0) = false := decide_eq_false (by omega)
  have q1 : decide (st.r ≤ e.who) = false := decide_eq_false (by omega)
  have q2 : decide (e.op < 1) = false := decide_eq_false (by omega)
  have q3 : decide (16 < e.op) = false := decide_eq_false (by omega)
  have HF := Lib.hid (show okE S st e = false by simp [okE, headE]; omega)
  unfold evC

  go_enter Try.func92, Try.ntmps92
  go_wp2_with (first
    | go_big_skip
    | (refine own_box 3 (#[Value.int .i64 e.who, .int .i64 e.op, .int .i64 e.a, .int .i64 e.v, .bool e.sh]) O rfl rfl rfl rfl ?_; clear O; intro W a3 O; simp only [Act.put, List.setIfInBounds_toArray, List.set_cons_zero, List.set_cons_succ]))
  have c3 := Later.cell (O.get 0 rfl)
  have cy : ∀ p : Later W, p.1.cell? ⟨y, 5, none⟩ = some (.int .i64 st.r) := fun p => (HL.out.kept (O.keep.trans p.2 (by simp))).y.cell 5
  refine wp_quiet_later (by kernel_rfl) (by kernel_rfl) ?_
  repeat (first
    | go_big_quiet_skip
    | go_big_quiet_step (fail))
  refine wpQuiet_nil ?_
  intro _ hw
  obtain ⟨p', rfl⟩ := hw
  replace O := O.keeps p'.2
  clear c3 cy
  generalize p'.1 = W at O ⊢
  go_wp2
  have c3 := Later.cell (O.get 0 rfl)
  have cy : ∀ p : Later W, p.1.cell? ⟨y, 5, none⟩ = some (.int .i64 st.r) := fun p => (HL.out.kept (O.keep.trans p.2 (by simp))).y.cell 5
  generalize hcn : cnt S e.op = cn at *
  have HCN : ∀ u, Hid (Calls Try.prog 109 #[.agg (sysV S A c R d), .int .i64 e.op] u fun e w' => e = .returned (.int .i64 cn) ∧ Keeps u w' []) := fun u => Lib.hid (by rw [← hcn]; exact sharedT_any S A c R d u e.op)
  have HCn := Lib.hid hcn
  clear hcn
  refine wp_quiet_later (by kernel_rfl) (by kernel_rfl) ?_
  repeat (first
    | go_big_quiet_skip
    | (refine wpQuiet_load_at (cs := sysV S A c R d) 31 rfl rfl rfl rfl (fun u hu => by obtain ⟨p', rfl⟩ := hu; exact (HL.out.kept (O.keep.trans p'.2 (by simp))).sysAt) Try.underlying27 rfl (by kernel_rfl) ?_; simp only [Act.put, List.setIfInBounds_toArray, List.set_cons_zero, List.set_cons_succ])
    | go_big_quiet_step ((go_at_call 109; exact later_of (HCN _).out)))
  refine wpQuiet_nil ?_
  intro _ hw
  obtain ⟨p', rfl⟩ := hw
  replace O := O.keeps p'.2
  clear c3 cy
  generalize p'.1 = W at O ⊢
  have c3 := (O.get 0 rfl).cell
  go_wp2
  go_ret
  exact ⟨by rw [HF.out]; rfl, O.keep.wide (by simp), fun h => by rw [HF.out] at h; cases h⟩
set_option maxRecDepth 100000 in
set_option maxHeartbeats 1000000 in
theorem next_bada1 (e : Ev) (l : LayAt w S A c R d y bh bs bt bu n st) (g0 : ¬ e.who < 0) (g1 : ¬ st.r ≤ e.who) (g2 : ¬ e.op < 1) (g3 : ¬ 16 < e.op) (g4 : 0 ≤ cnt S e.op) (g5 : ¬ e.a < 0) (g6 : cnt S e.op ≤ e.a) : Calls Try.prog 92 #[.pointer (some ⟨y, 0, none⟩), .agg (evC e)] w (NextPost S A c R d y bh bs bt bu n st e w) := by
  have O := Own.start w []
  have HL := Lib.hid l
  clear l
  have q0 : decide (e.who < 0) = false := decide_eq_false (by omega)
  have q1 : decide (st.r ≤ e.who) = false := decide_eq_false (by omega)
  have q2 : decide (e.op < 1) = false := decide_eq_false (by omega)
  have q3 : decide (16 < e.op) = false := decide_eq_false (by omega)
  have HF := Lib.hid (show okE S st e = false by simp [okE, headE]; omega)
  unfold evC

  go_enter Try.func92, Try.ntmps92
  go_wp2_with (first
    | go_big_skip
    | (refine own_box 3 (#[Value.int .i64 e.who, .int .i64 e.op, .int .i64 e.a, .int .i64 e.v, .bool e.sh]) O rfl rfl rfl rfl ?_; clear O; intro W a3 O; simp only [Act.put, List.setIfInBounds_toArray, List.set_cons_zero, List.set_cons_succ]))
  have c3 := Later.cell (O.get 0 rfl)
  have cy : ∀ p : Later W, p.1.cell? ⟨y, 5, none⟩ = some (.int .i64 st.r) := fun p => (HL.out.kept (O.keep.trans p.2 (by simp))).y.cell 5
  refine wp_quiet_later (by kernel_rfl) (by kernel_rfl) ?_
  repeat (first
    | go_big_quiet_skip
    | go_big_quiet_step (fail))
  refine wpQuiet_nil ?_
  intro _ hw
  obtain ⟨p', rfl⟩ := hw
  replace O := O.keeps p'.2
  clear c3 cy
  generalize p'.1 = W at O ⊢
  go_wp2
  have c3 := Later.cell (O.get 0 rfl)
  have cy : ∀ p : Later W, p.1.cell? ⟨y, 5, none⟩ = some (.int .i64 st.r) := fun p => (HL.out.kept (O.keep.trans p.2 (by simp))).y.cell 5
  generalize hcn : cnt S e.op = cn at *
  have HCN : ∀ u, Hid (Calls Try.prog 109 #[.agg (sysV S A c R d), .int .i64 e.op] u fun e w' => e = .returned (.int .i64 cn) ∧ Keeps u w' []) := fun u => Lib.hid (by rw [← hcn]; exact sharedT_any S A c R d u e.op)
  have HCn := Lib.hid hcn
  clear hcn
  refine wp_quiet_later (by kernel_rfl) (by kernel_rfl) ?_
  repeat (first
    | go_big_quiet_skip
    | (refine wpQuiet_load_at (cs := sysV S A c R d) 31 rfl rfl rfl rfl (fun u hu => by obtain ⟨p', rfl⟩ := hu; exact (HL.out.kept (O.keep.trans p'.2 (by simp))).sysAt) Try.underlying27 rfl (by kernel_rfl) ?_; simp only [Act.put, List.setIfInBounds_toArray, List.set_cons_zero, List.set_cons_succ])
    | go_big_quiet_step ((go_at_call 109; exact later_of (HCN _).out)))
  refine wpQuiet_nil ?_
  intro _ hw
  obtain ⟨p', rfl⟩ := hw
  replace O := O.keeps p'.2
  clear c3 cy
  generalize p'.1 = W at O ⊢
  have c3 := (O.get 0 rfl).cell
  go_wp2
  go_ret
  exact ⟨by rw [HF.out]; rfl, O.keep.wide (by simp), fun h => by rw [HF.out] at h; cases h⟩
set_option maxRecDepth 100000 in
set_option maxHeartbeats 1000000 in
theorem next_14a (e : Ev) (l : LayAt w S A c R d y bh bs bt bu n st) (he : e.op = 14) (g0 : ¬ e.who < 0) (g1 : ¬ st.r ≤ e.who) (g4 : 0 ≤ cnt S 14) (g5 : ¬ e.a < 0) (g6 : ¬ cnt S 14 ≤ e.a) (_hwf : (Lit.int .i64 e.a).wf = true) (_hn : n < 100000) (_hb : ∀ j, 0 ≤ st.sent j ∧ st.sent j ≤ 100000 ∧ 0 ≤ st.took j ∧ st.took j ≤ 100000) (_hr : 0 ≤ st.r ∧ st.r ≤ 100000) (hv : e.v = 0) : Calls Try.prog 92 #[.pointer (some ⟨y, 0, none⟩), .agg (evC e)] w (NextPost S A c R d y bh bs bt bu n st e w) := by
  have O := Own.start w []
  have HL := Lib.hid l
  clear l
  have q0 : decide (e.who < 0) = false := decide_eq_false (by omega)
  have q1 : decide (st.r ≤ e.who) = false := decide_eq_false (by omega)
  have HF := Lib.hid (show okE S st e = bodyE st e by simp [okE, headE, he]; omega)
  have HB := Lib.hid (show bodyE st e = true by simp [bodyE, he, hv])
  have HN := Lib.hid (show nextE st e = st by simp [nextE, he, hv])
  unfold evC
  rw [he, hv]
  go_enter Try.func92, Try.ntmps92
  go_wp2_with (first
    | go_big_skip
    | (refine own_box 3 (#[Value.int .i64 e.who, .int .i64 14, .int .i64 e.a, .int .i64 0, .bool e.sh]) O rfl rfl rfl rfl ?_; clear O; intro W a3 O; simp only [Act.put, List.setIfInBounds_toArray, List.set_cons_zero, List.set_cons_succ]))
  have c3 := Later.cell (O.get 0 rfl)
  have cy : ∀ p : Later W, p.1.cell? ⟨y, 5, none⟩ = some (.int .i64 st.r) := fun p => (HL.out.kept (O.keep.trans p.2 (by simp))).y.cell 5
  refine wp_quiet_later (by kernel_rfl) (by kernel_rfl) ?_
  repeat (first
    | go_big_quiet_skip
    | go_big_quiet_step (fail))
  refine wpQuiet_nil ?_
  intro _ hw
  obtain ⟨p', rfl⟩ := hw
  replace O := O.keeps p'.2
  clear c3 cy
  generalize p'.1 = W at O ⊢
  go_wp2
  have c3 := Later.cell (O.get 0 rfl)
  have cy : ∀ p : Later W, p.1.cell? ⟨y, 5, none⟩ = some (.int .i64 st.r) := fun p => (HL.out.kept (O.keep.trans p.2 (by simp))).y.cell 5
  generalize hcn : cnt S 14 = cn at *
  have HCN : ∀ u, Hid (Calls Try.prog 109 #[.agg (sysV S A c R d), .int .i64 14] u fun e w' => e = .returned (.int .i64 cn) ∧ Keeps u w' []) := fun u => Lib.hid (by rw [← hcn]; exact sharedT_any S A c R d u 14)
  have HCn := Lib.hid hcn
  clear hcn
  refine wp_quiet_later (by kernel_rfl) (by kernel_rfl) ?_
  repeat (first
    | go_big_quiet_skip
    | (refine wpQuiet_load_at (cs := sysV S A c R d) 31 rfl rfl rfl rfl (fun u hu => by obtain ⟨p', rfl⟩ := hu; exact (HL.out.kept (O.keep.trans p'.2 (by simp))).sysAt) Try.underlying27 rfl (by kernel_rfl) ?_; simp only [Act.put, List.setIfInBounds_toArray, List.set_cons_zero, List.set_cons_succ])
    | go_big_quiet_step ((go_at_call 109; exact later_of (HCN _).out)))
  refine wpQuiet_nil ?_
  intro _ hw
  obtain ⟨p', rfl⟩ := hw
  replace O := O.keeps p'.2
  clear c3 cy
  generalize p'.1 = W at O ⊢
  have c3 := (O.get 0 rfl).cell
  go_wp2
  go_ret
  exact ⟨by rw [HF.out, HB.out]; rfl, O.keep.wide (by simp), fun h => (by rw [HN.out]; exact (HL.out.kept O.keep).mono (by omega))⟩
set_option maxRecDepth 100000 in
set_option maxHeartbeats 1000000 in
theorem next_14b (e : Ev) (l : LayAt w S A c R d y bh bs bt bu n st) (he : e.op = 14) (g0 : ¬ e.who < 0) (g1 : ¬ st.r ≤ e.who) (g4 : 0 ≤ cnt S 14) (g5 : ¬ e.a < 0) (g6 : ¬ cnt S 14 ≤ e.a) (_hwf : (Lit.int .i64 e.a).wf = true) (_hn : n < 100000) (_hb : ∀ j, 0 ≤ st.sent j ∧ st.sent j ≤ 100000 ∧ 0 ≤ st.took j ∧ st.took j ≤ 100000) (_hr : 0 ≤ st.r ∧ st.r ≤ 100000) (hv : ¬ e.v = 0) (hv2 : ¬ e.v = st.r) : Calls Try.prog 92 #[.pointer (some ⟨y, 0, none⟩), .agg (evC e)] w (NextPost S A c R d y bh bs bt bu n st e w) := by
  have O := Own.start w []
  have HL := Lib.hid l
  clear l
  have q0 : decide (e.who < 0) = false := decide_eq_false (by omega)
  have q1 : decide (st.r ≤ e.who) = false := decide_eq_false (by omega)
  have HF := Lib.hid (show okE S st e = bodyE st e by simp [okE, headE, he]; omega)
  have HB := Lib.hid (show bodyE st e = false by simp [bodyE, he, hv, hv2])
  have z : (e.v != st.r) = true := by simpa using hv2
  unfold evC
  rw [he]
  go_enter Try.func92, Try.ntmps92
  go_wp2_with (first
    | go_big_skip
    | (refine own_box 3 (#[Value.int .i64 e.who, .int .i64 14, .int .i64 e.a, .int .i64 e.v, .bool e.sh]) O rfl rfl rfl rfl ?_; clear O; intro W a3 O; simp only [Act.put, List.setIfInBounds_toArray, List.set_cons_zero, List.set_cons_succ]))
  have c3 := Later.cell (O.get 0 rfl)
  have cy : ∀ p : Later W, p.1.cell? ⟨y, 5, none⟩ = some (.int .i64 st.r) := fun p => (HL.out.kept (O.keep.trans p.2 (by simp))).y.cell 5
  refine wp_quiet_later (by kernel_rfl) (by kernel_rfl) ?_
  repeat (first
    | go_big_quiet_skip
    | go_big_quiet_step (fail))
  refine wpQuiet_nil ?_
  intro _ hw
  obtain ⟨p', rfl⟩ := hw
  replace O := O.keeps p'.2
  clear c3 cy
  generalize p'.1 = W at O ⊢
  go_wp2
  have c3 := Later.cell (O.get 0 rfl)
  have cy : ∀ p : Later W, p.1.cell? ⟨y, 5, none⟩ = some (.int .i64 st.r) := fun p => (HL.out.kept (O.keep.trans p.2 (by simp))).y.cell 5
  generalize hcn : cnt S 14 = cn at *
  have HCN : ∀ u, Hid (Calls Try.prog 109 #[.agg (sysV S A c R d), .int .i64 14] u fun e w' => e = .returned (.int .i64 cn) ∧ Keeps u w' []) := fun u => Lib.hid (by rw [← hcn]; exact sharedT_any S A c R d u 14)
  have HCn := Lib.hid hcn
  clear hcn
  refine wp_quiet_later (by kernel_rfl) (by kernel_rfl) ?_
  repeat (first
    | go_big_quiet_skip
    | (refine wpQuiet_load_at (cs := sysV S A c R d) 31 rfl rfl rfl rfl (fun u hu => by obtain ⟨p', rfl⟩ := hu; exact (HL.out.kept (O.keep.trans p'.2 (by simp))).sysAt) Try.underlying27 rfl (by kernel_rfl) ?_; simp only [Act.put, List.setIfInBounds_toArray, List.set_cons_zero, List.set_cons_succ])
    | go_big_quiet_step ((go_at_call 109; exact later_of (HCN _).out)))
  refine wpQuiet_nil ?_
  intro _ hw
  obtain ⟨p', rfl⟩ := hw
  replace O := O.keeps p'.2
  clear c3 cy
  generalize p'.1 = W at O ⊢
  have c3 := (O.get 0 rfl).cell
  go_wp2
  clear c3
  have c3 := Later.cell (O.get 0 rfl)
  have cy : ∀ p : Later W, p.1.cell? ⟨y, 5, none⟩ = some (.int .i64 st.r) := fun p => (HL.out.kept (O.keep.trans p.2 (by simp))).y.cell 5
  refine wp_quiet_later (by kernel_rfl) (by kernel_rfl) ?_
  repeat (first
    | go_big_quiet_skip
    | go_big_quiet_step (fail))
  refine wpQuiet_nil ?_
  intro _ hw
  obtain ⟨p', rfl⟩ := hw
  replace O := O.keeps p'.2
  clear c3 cy
  generalize p'.1 = W at O ⊢
  go_wp2
  go_ret
  exact ⟨by rw [HF.out, HB.out]; rfl, O.keep.wide (by simp), fun h => (by rw [HF.out, HB.out] at h; cases h)⟩
set_option maxRecDepth 100000 in
set_option maxHeartbeats 1000000 in
theorem next_14c (e : Ev) (l : LayAt w S A c R d y bh bs bt bu n st) (he : e.op = 14) (g0 : ¬ e.who < 0) (g1 : ¬ st.r ≤ e.who) (g4 : 0 ≤ cnt S 14) (g5 : ¬ e.a < 0) (g6 : ¬ cnt S 14 ≤ e.a) (_hwf : (Lit.int .i64 e.a).wf = true) (_hn : n < 100000) (_hb : ∀ j, 0 ≤ st.sent j ∧ st.sent j ≤ 100000 ∧ 0 ≤ st.took j ∧ st.took j ≤ 100000) (hr : 0 ≤ st.r ∧ st.r ≤ 100000) (hv : ¬ e.v = 0) (hv2 : e.v = st.r) (hv3 : 512 ≤ st.r) : Calls Try.prog 92 #[.pointer (some ⟨y, 0, none⟩), .agg (evC e)] w (NextPost S A c R d y bh bs bt bu n st e w) := by
  have O := Own.start w []
  have HL := Lib.hid l
  clear l
  have q0 : decide (e.who < 0) = false := decide_eq_false (by omega)
  have q1 : decide (st.r ≤ e.who) = false := decide_eq_false (by omega)
  have HF := Lib.hid (show okE S st e = bodyE st e by simp [okE, headE, he]; omega)
  have HB := Lib.hid (show bodyE st e = false by simp [bodyE, he, hv]; omega)
  have q9 : decide (512 ≤ st.r) = true := decide_eq_true hv3
  have z0 : ¬ st.r = 0 := by omega
  unfold evC
  rw [he, hv2]
  go_enter Try.func92, Try.ntmps92
  go_wp2_with (first
    | go_big_skip
    | (refine own_box 3 (#[Value.int .i64 e.who, .int .i64 14, .int .i64 e.a, .int .i64 st.r, .bool e.sh]) O rfl rfl rfl rfl ?_; clear O; intro W a3 O; simp only [Act.put, List.setIfInBounds_toArray, List.set_cons_zero, List.set_cons_succ]))
  have c3 := Later.cell (O.get 0 rfl)
  have cy : ∀ p : Later W, p.1.cell? ⟨y, 5, none⟩ = some (.int .i64 st.r) := fun p => (HL.out.kept (O.keep.trans p.2 (by simp))).y.cell 5
  refine wp_quiet_later (by kernel_rfl) (by kernel_rfl) ?_
  repeat (first
    | go_big_quiet_skip
    | go_big_quiet_step (fail))
  refine wpQuiet_nil ?_
  intro _ hw
  obtain ⟨p', rfl⟩ := hw
  replace O := O.keeps p'.2
  clear c3 cy
  generalize p'.1 = W at O ⊢
  go_wp2
  have c3 := Later.cell (O.get 0 rfl)
  have cy : ∀ p : Later W, p.1.cell? ⟨y, 5, none⟩ = some (.int .i64 st.r) := fun p => (HL.out.kept (O.keep.trans p.2 (by simp))).y.cell 5
  generalize hcn : cnt S 14 = cn at *
  have HCN : ∀ u, Hid (Calls Try.prog 109 #[.agg (sysV S A c R d), .int .i64 14] u fun e w' => e = .returned (.int .i64 cn) ∧ Keeps u w' []) := fun u => Lib.hid (by rw [← hcn]; exact sharedT_any S A c R d u 14)
  have HCn := Lib.hid hcn
  clear hcn
  refine wp_quiet_later (by kernel_rfl) (by kernel_rfl) ?_
  repeat (first
    | go_big_quiet_skip
    | (refine wpQuiet_load_at (cs := sysV S A c R d) 31 rfl rfl rfl rfl (fun u hu => by obtain ⟨p', rfl⟩ := hu; exact (HL.out.kept (O.keep.trans p'.2 (by simp))).sysAt) Try.underlying27 rfl (by kernel_rfl) ?_; simp only [Act.put, List.setIfInBounds_toArray, List.set_cons_zero, List.set_cons_succ])
    | go_big_quiet_step ((go_at_call 109; exact later_of (HCN _).out)))
  refine wpQuiet_nil ?_
  intro _ hw
  obtain ⟨p', rfl⟩ := hw
  replace O := O.keeps p'.2
  clear c3 cy
  generalize p'.1 = W at O ⊢
  have c3 := (O.get 0 rfl).cell
  go_wp2
  clear c3
  have c3 := Later.cell (O.get 0 rfl)
  have cy : ∀ p : Later W, p.1.cell? ⟨y, 5, none⟩ = some (.int .i64 st.r) := fun p => (HL.out.kept (O.keep.trans p.2 (by simp))).y.cell 5
  refine wp_quiet_later (by kernel_rfl) (by kernel_rfl) ?_
  repeat (first
    | go_big_quiet_skip
    | go_big_quiet_step (fail))
  refine wpQuiet_nil ?_
  intro _ hw
  obtain ⟨p', rfl⟩ := hw
  replace O := O.keeps p'.2
  clear c3 cy
  generalize p'.1 = W at O ⊢
  go_wp2
  go_ret
  exact ⟨by rw [HF.out, HB.out]; rfl, O.keep.wide (by simp), fun h => (by rw [HF.out, HB.out] at h; cases h)⟩
set_option maxRecDepth 100000 in
set_option maxHeartbeats 1000000 in
theorem next_14d (e : Ev) (l : LayAt w S A c R d y bh bs bt bu n st) (he : e.op = 14) (g0 : ¬ e.who < 0) (g1 : ¬ st.r ≤ e.who) (g4 : 0 ≤ cnt S 14) (g5 : ¬ e.a < 0) (g6 : ¬ cnt S 14 ≤ e.a) (_hwf : (Lit.int .i64 e.a).wf = true) (_hn : n < 100000) (_hb : ∀ j, 0 ≤ st.sent j ∧ st.sent j ≤ 100000 ∧ 0 ≤ st.took j ∧ st.took j ≤ 100000) (hr : 0 ≤ st.r ∧ st.r ≤ 100000) (hv : ¬ e.v = 0) (hv2 : e.v = st.r) (hv3 : ¬ 512 ≤ st.r) : Calls Try.prog 92 #[.pointer (some ⟨y, 0, none⟩), .agg (evC e)] w (NextPost S A c R d y bh bs bt bu n st e w) := by
  have O := Own.start w []
  have HL := Lib.hid l
  clear l
  have q0 : decide (e.who < 0) = false := decide_eq_false (by omega)
  have q1 : decide (st.r ≤ e.who) = false := decide_eq_false (by omega)
  have HF := Lib.hid (show okE S st e = bodyE st e by simp [okE, headE, he]; omega)
  have HB := Lib.hid (show bodyE st e = true by simp [bodyE, he, hv]; omega)
  have HN := Lib.hid (show nextE st e = { st with r := st.r + 1 } by simp [nextE, he, hv])
  have q9 : decide (512 ≤ st.r) = false := decide_eq_false hv3
  have z0 : ¬ st.r = 0 := by omega
  have r1 : IntKind.i64.wrap (st.r + 1) = st.r + 1 := IntWalk.i64_in _ (by omega)
  unfold evC
  rw [he, hv2]
  go_enter Try.func92, Try.ntmps92
  go_wp2_with (first
    | go_big_skip
    | (refine own_box 3 (#[Value.int .i64 e.who, .int .i64 14, .int .i64 e.a, .int .i64 st.r, .bool e.sh]) O rfl rfl rfl rfl ?_; clear O; intro W a3 O; simp only [Act.put, List.setIfInBounds_toArray, List.set_cons_zero, List.set_cons_succ]))
  have c3 := Later.cell (O.get 0 rfl)
  have cy : ∀ p : Later W, p.1.cell? ⟨y, 5, none⟩ = some (.int .i64 st.r) := fun p => (HL.out.kept (O.keep.trans p.2 (by simp))).y.cell 5
  refine wp_quiet_later (by kernel_rfl) (by kernel_rfl) ?_
  repeat (first
    | go_big_quiet_skip
    | go_big_quiet_step (fail))
  refine wpQuiet_nil ?_
  intro _ hw
  obtain ⟨p', rfl⟩ := hw
  replace O := O.keeps p'.2
  clear c3 cy
  generalize p'.1 = W at O ⊢
  go_wp2
  have c3 := Later.cell (O.get 0 rfl)
  have cy : ∀ p : Later W, p.1.cell? ⟨y, 5, none⟩ = some (.int .i64 st.r) := fun p => (HL.out.kept (O.keep.trans p.2 (by simp))).y.cell 5
  generalize hcn : cnt S 14 = cn at *
  have HCN : ∀ u, Hid (Calls Try.prog 109 #[.agg (sysV S A c R d), .int .i64 14] u fun e w' => e = .returned (.int .i64 cn) ∧ Keeps u w' []) := fun u => Lib.hid (by rw [← hcn]; exact sharedT_any S A c R d u 14)
  have HCn := Lib.hid hcn
  clear hcn
  refine wp_quiet_later (by kernel_rfl) (by kernel_rfl) ?_
  repeat (first
    | go_big_quiet_skip
    | (refine wpQuiet_load_at (cs := sysV S A c R d) 31 rfl rfl rfl rfl (fun u hu => by obtain ⟨p', rfl⟩ := hu; exact (HL.out.kept (O.keep.trans p'.2 (by simp))).sysAt) Try.underlying27 rfl (by kernel_rfl) ?_; simp only [Act.put, List.setIfInBounds_toArray, List.set_cons_zero, List.set_cons_succ])
    | go_big_quiet_step ((go_at_call 109; exact later_of (HCN _).out)))
  refine wpQuiet_nil ?_
  intro _ hw
  obtain ⟨p', rfl⟩ := hw
  replace O := O.keeps p'.2
  clear c3 cy
  generalize p'.1 = W at O ⊢
  have c3 := (O.get 0 rfl).cell
  go_wp2
  clear c3
  have c3 := Later.cell (O.get 0 rfl)
  have cy : ∀ p : Later W, p.1.cell? ⟨y, 5, none⟩ = some (.int .i64 st.r) := fun p => (HL.out.kept (O.keep.trans p.2 (by simp))).y.cell 5
  refine wp_quiet_later (by kernel_rfl) (by kernel_rfl) ?_
  repeat (first
    | go_big_quiet_skip
    | go_big_quiet_step (fail))
  refine wpQuiet_nil ?_
  intro _ hw
  obtain ⟨p', rfl⟩ := hw
  replace O := O.keeps p'.2
  clear c3 cy
  generalize p'.1 = W at O ⊢
  have cy : W.cell? ⟨y, 5, none⟩ = some (.int .i64 st.r) := (HL.out.kept O.keep).y.cell 5
  go_wp2_with (first
    | (refine wpList_store_blk y 5 156 _ (.int .i64 (st.r + 1)) rfl rfl rfl rfl rfl (HL.out.kept O.keep).y (by show 5 < 10; omega) rfl rfl (by kernel_rfl) ?_; intro u K M))
  have L2 := Lib.hid ((HL.out.kept O.keep).setY K M)
  have K2 := Lib.hid ((O.keep.wide (L' := [y, bh, bs, bt, bu]) (by simp)).trans (K.wide (L' := [y, bh, bs, bt, bu]) (by simp)) (fun b hb _ => hb))
  clear M cy
  go_wp2
  go_ret
  exact ⟨by rw [HF.out, HB.out]; rfl, K2.out, fun h => (by rw [HN.out]; exact L2.out.mono (by omega))⟩
set_option maxRecDepth 100000 in
set_option maxHeartbeats 1000000 in
theorem next_5 (e : Ev) (l : LayAt w S A c R d y bh bs bt bu n st) (he : e.op = 5) (g0 : ¬ e.who < 0) (g1 : ¬ st.r ≤ e.who) (g4 : 0 ≤ cnt S 5) (g5 : ¬ e.a < 0) (g6 : ¬ cnt S 5 ≤ e.a) (hwf : (Lit.int .i64 e.a).wf = true) (hn : n < 100000) (hb : ∀ j, 0 ≤ st.sent j ∧ st.sent j ≤ 100000 ∧ 0 ≤ st.took j ∧ st.took j ≤ 100000) (_hr : 0 ≤ st.r ∧ st.r ≤ 100000)  : Calls Try.prog 92 #[.pointer (some ⟨y, 0, none⟩), .agg (evC e)] w (NextPost S A c R d y bh bs bt bu n st e w) := by
  have O := Own.start w []
  have HL := Lib.hid l
  clear l
  have q0 : decide (e.who < 0) = false := decide_eq_false (by omega)
  have q1 : decide (st.r ≤ e.who) = false := decide_eq_false (by omega)
  have HF := Lib.hid (show okE S st e = bodyE st e by simp [okE, headE, he]; omega)
  have HB := Lib.hid (show bodyE st e = true by simp [bodyE, he])
  have HN := Lib.hid (show nextE st e = { st with sent := updI st.sent e.a (st.sent e.a + 1) } by simp [nextE, he])
  have r1 : IntKind.i64.wrap (st.sent e.a + 1) = st.sent e.a + 1 := IntWalk.i64_in _ (by have := hb e.a; omega)
  unfold evC
  rw [he]
  go_enter Try.func92, Try.ntmps92
  go_wp2_with (first
    | go_big_skip
    | (refine own_box 3 (#[Value.int .i64 e.who, .int .i64 5, .int .i64 e.a, .int .i64 e.v, .bool e.sh]) O rfl rfl rfl rfl ?_; clear O; intro W a3 O; simp only [Act.put, List.setIfInBounds_toArray, List.set_cons_zero, List.set_cons_succ]))
  have c3 := Later.cell (O.get 0 rfl)
  have cy : ∀ p : Later W, p.1.cell? ⟨y, 5, none⟩ = some (.int .i64 st.r) := fun p => (HL.out.kept (O.keep.trans p.2 (by simp))).y.cell 5
  refine wp_quiet_later (by kernel_rfl) (by kernel_rfl) ?_
  repeat (first
    | go_big_quiet_skip
    | go_big_quiet_step (fail))
  refine wpQuiet_nil ?_
  intro _ hw
  obtain ⟨p', rfl⟩ := hw
  replace O := O.keeps p'.2
  clear c3 cy
  generalize p'.1 = W at O ⊢
  go_wp2
  have c3 := Later.cell (O.get 0 rfl)
  have cy : ∀ p : Later W, p.1.cell? ⟨y, 5, none⟩ = some (.int .i64 st.r) := fun p => (HL.out.kept (O.keep.trans p.2 (by simp))).y.cell 5
  generalize hcn : cnt S 5 = cn at *
  have HCN : ∀ u, Hid (Calls Try.prog 109 #[.agg (sysV S A c R d), .int .i64 5] u fun e w' => e = .returned (.int .i64 cn) ∧ Keeps u w' []) := fun u => Lib.hid (by rw [← hcn]; exact sharedT_any S A c R d u 5)
  have HCn := Lib.hid hcn
  clear hcn
  refine wp_quiet_later (by kernel_rfl) (by kernel_rfl) ?_
  repeat (first
    | go_big_quiet_skip
    | (refine wpQuiet_load_at (cs := sysV S A c R d) 31 rfl rfl rfl rfl (fun u hu => by obtain ⟨p', rfl⟩ := hu; exact (HL.out.kept (O.keep.trans p'.2 (by simp))).sysAt) Try.underlying27 rfl (by kernel_rfl) ?_; simp only [Act.put, List.setIfInBounds_toArray, List.set_cons_zero, List.set_cons_succ])
    | go_big_quiet_step ((go_at_call 109; exact later_of (HCN _).out)))
  refine wpQuiet_nil ?_
  intro _ hw
  obtain ⟨p', rfl⟩ := hw
  replace O := O.keeps p'.2
  clear c3 cy
  generalize p'.1 = W at O ⊢
  have c3 := (O.get 0 rfl).cell
  go_wp2
  clear c3
  have c3 := Later.cell (O.get 0 rfl)
  have cy : ∀ p : Later W, p.1.cell? ⟨y, 7, none⟩ = some (.map (some bs)) := fun p => (HL.out.kept (O.keep.trans p.2 (by simp))).y.cell 7
  have lk : ∀ p : Later W, (Instr.lookup 117 (.map (some bs)) (.int .i64 e.a) false).run Try.prog p.1 = .ok (.int .i64 (st.sent e.a)) p.1 := fun p => look_eqI (HL.out.kept (O.keep.trans p.2 (by simp))).s 117 Try.underlying117 e.a hwf
  refine wp_quiet_tail_later 8 (by kernel_rfl) (by kernel_rfl) ?_
  simp only [List.take, List.drop]
  repeat (first
    | go_big_quiet_skip
    | go_big_quiet_step (fail))
  refine wpQuiet_nil ?_
  intro _ hw
  obtain ⟨p', rfl⟩ := hw
  replace O := O.keeps p'.2
  clear c3 cy lk
  generalize p'.1 = W at O ⊢
  refine map_storeI (HL.out.kept O.keep).s 117 Try.underlying117 rfl rfl rfl rfl hwf rfl (WalkArith.wf_i64 (by have := hb e.a; omega)) (by unfold maxLen; omega) ?_
  intro u K M
  have L2 := Lib.hid ((HL.out.kept O.keep).setS K M)
  have K2 := Lib.hid ((O.keep.wide (L' := [y, bh, bs, bt, bu]) (by simp)).trans (K.wide (L' := [y, bh, bs, bt, bu]) (by simp)) (fun b hb _ => hb))
  clear M
  go_wp2
  go_ret
  exact ⟨by rw [HF.out, HB.out]; rfl, K2.out, fun h => (by rw [HN.out]; exact L2.out)⟩
set_option maxRecDepth 100000 in
set_option maxHeartbeats 1000000 in
theorem next_7 (e : Ev) (l : LayAt w S A c R d y bh bs bt bu n st) (he : e.op = 7) (g0 : ¬ e.who < 0) (g1 : ¬ st.r ≤ e.who) (g4 : 0 ≤ cnt S 7) (g5 : ¬ e.a < 0) (g6 : ¬ cnt S 7 ≤ e.a) (hwf : (Lit.int .i64 e.a).wf = true) (hn : n < 100000) (_hb : ∀ j, 0 ≤ st.sent j ∧ st.sent j ≤ 100000 ∧ 0 ≤ st.took j ∧ st.took j ≤ 100000) (_hr : 0 ≤ st.r ∧ st.r ≤ 100000)  : Calls Try.prog 92 #[.pointer (some ⟨y, 0, none⟩), .agg (evC e)] w (NextPost S A c R d y bh bs bt bu n st e w) := by
  have O := Own.start w []
  have HL := Lib.hid l
  clear l
  have q0 : decide (e.who < 0) = false := decide_eq_false (by omega)
  have q1 : decide (st.r ≤ e.who) = false := decide_eq_false (by omega)
  have HF := Lib.hid (show okE S st e = bodyE st e by simp [okE, headE, he]; omega)
  have HB := Lib.hid (show bodyE st e = true by simp [bodyE, he])
  have HN := Lib.hid (show nextE st e = { st with shut := updI st.shut e.a true } by simp [nextE, he])
  unfold evC
  rw [he]
  go_enter Try.func92, Try.ntmps92
  go_wp2_with (first
    | go_big_skip
    | (refine own_box 3 (#[Value.int .i64 e.who, .int .i64 7, .int .i64 e.a, .int .i64 e.v, .bool e.sh]) O rfl rfl rfl rfl ?_; clear O; intro W a3 O; simp only [Act.put, List.setIfInBounds_toArray, List.set_cons_zero, List.set_cons_succ]))
  have c3 := Later.cell (O.get 0 rfl)
  have cy : ∀ p : Later W, p.1.cell? ⟨y, 5, none⟩ = some (.int .i64 st.r) := fun p => (HL.out.kept (O.keep.trans p.2 (by simp))).y.cell 5
  refine wp_quiet_later (by kernel_rfl) (by kernel_rfl) ?_
  repeat (first
    | go_big_quiet_skip
    | go_big_quiet_step (fail))
  refine wpQuiet_nil ?_
  intro _ hw
  obtain ⟨p', rfl⟩ := hw
  replace O := O.keeps p'.2
  clear c3 cy
  generalize p'.1 = W at O ⊢
  go_wp2
  have c3 := Later.cell (O.get 0 rfl)
  have cy : ∀ p : Later W, p.1.cell? ⟨y, 5, none⟩ = some (.int .i64 st.r) := fun p => (HL.out.kept (O.keep.trans p.2 (by simp))).y.cell 5
  generalize hcn : cnt S 7 = cn at *
  have HCN : ∀ u, Hid (Calls Try.prog 109 #[.agg (sysV S A c R d), .int .i64 7] u fun e w' => e = .returned (.int .i64 cn) ∧ Keeps u w' []) := fun u => Lib.hid (by rw [← hcn]; exact sharedT_any S A c R d u 7)
  have HCn := Lib.hid hcn
  clear hcn
  refine wp_quiet_later (by kernel_rfl) (by kernel_rfl) ?_
  repeat (first
    | go_big_quiet_skip
    | (refine wpQuiet_load_at (cs := sysV S A c R d) 31 rfl rfl rfl rfl (fun u hu => by obtain ⟨p', rfl⟩ := hu; exact (HL.out.kept (O.keep.trans p'.2 (by simp))).sysAt) Try.underlying27 rfl (by kernel_rfl) ?_; simp only [Act.put, List.setIfInBounds_toArray, List.set_cons_zero, List.set_cons_succ])
    | go_big_quiet_step ((go_at_call 109; exact later_of (HCN _).out)))
  refine wpQuiet_nil ?_
  intro _ hw
  obtain ⟨p', rfl⟩ := hw
  replace O := O.keeps p'.2
  clear c3 cy
  generalize p'.1 = W at O ⊢
  have c3 := (O.get 0 rfl).cell
  go_wp2
  clear c3
  have c3 := Later.cell (O.get 0 rfl)
  have cy : ∀ p : Later W, p.1.cell? ⟨y, 9, none⟩ = some (.map (some bu)) := fun p => (HL.out.kept (O.keep.trans p.2 (by simp))).y.cell 9
  refine wp_quiet_tail_later 6 (by kernel_rfl) (by kernel_rfl) ?_
  simp only [List.take, List.drop]
  repeat (first
    | go_big_quiet_skip
    | go_big_quiet_step (fail))
  refine wpQuiet_nil ?_
  intro _ hw
  obtain ⟨p', rfl⟩ := hw
  replace O := O.keeps p'.2
  clear c3 cy
  generalize p'.1 = W at O ⊢
  refine map_storeB (HL.out.kept O.keep).u 154 Try.underlying154 rfl rfl rfl rfl hwf rfl (by unfold maxLen; omega) ?_
  intro u K M
  have L2 := Lib.hid ((HL.out.kept O.keep).setU K M)
  have K2 := Lib.hid ((O.keep.wide (L' := [y, bh, bs, bt, bu]) (by simp)).trans (K.wide (L' := [y, bh, bs, bt, bu]) (by simp)) (fun b hb _ => hb))
  clear M
  go_wp2
  go_ret
  exact ⟨by rw [HF.out, HB.out]; rfl, K2.out, fun h => (by rw [HN.out]; exact L2.out)⟩
set_option maxRecDepth 100000 in
set_option maxHeartbeats 1000000 in
theorem next_9 (e : Ev) (l : LayAt w S A c R d y bh bs bt bu n st) (he : e.op = 9) (g0 : ¬ e.who < 0) (g1 : ¬ st.r ≤ e.who) (g4 : 0 ≤ cnt S 9) (g5 : ¬ e.a < 0) (g6 : ¬ cnt S 9 ≤ e.a) (hwf : (Lit.int .i64 e.a).wf = true) (hn : n < 100000) (_hb : ∀ j, 0 ≤ st.sent j ∧ st.sent j ≤ 100000 ∧ 0 ≤ st.took j ∧ st.took j ≤ 100000) (_hr : 0 ≤ st.r ∧ st.r ≤ 100000)  : Calls Try.prog 92 #[.pointer (some ⟨y, 0, none⟩), .agg (evC e)] w (NextPost S A c R d y bh bs bt bu n st e w) := by
  have O := Own.start w []
  have HL := Lib.hid l
  clear l
  have q0 : decide (e.who < 0) = false := decide_eq_false (by omega)
  have q1 : decide (st.r ≤ e.who) = false := decide_eq_false (by omega)
  have HF := Lib.hid (show okE S st e = bodyE st e by simp [okE, headE, he]; omega)
  have HB := Lib.hid (show bodyE st e = true by simp [bodyE, he])
  have HN := Lib.hid (show nextE st e = { st with held := updI st.held e.a false } by simp [nextE, he])
  unfold evC
  rw [he]
  go_enter Try.func92, Try.ntmps92
  go_wp2_with (first
    | go_big_skip
    | (refine own_box 3 (#[Value.int .i64 e.who, .int .i64 9, .int .i64 e.a, .int .i64 e.v, .bool e.sh]) O rfl rfl rfl rfl ?_; clear O; intro W a3 O; simp only [Act.put, List.setIfInBounds_toArray, List.set_cons_zero, List.set_cons_succ]))
  have c3 := Later.cell (O.get 0 rfl)
  have cy : ∀ p : Later W, p.1.cell? ⟨y, 5, none⟩ = some (.int .i64 st.r) := fun p => (HL.out.kept (O.keep.trans p.2 (by simp))).y.cell 5
  refine wp_quiet_later (by kernel_rfl) (by kernel_rfl) ?_
  repeat (first
    | go_big_quiet_skip
    | go_big_quiet_step (fail))
  refine wpQuiet_nil ?_
  intro _ hw
  obtain ⟨p', rfl⟩ := hw
  replace O := O.keeps p'.2
  clear c3 cy
  generalize p'.1 = W at O ⊢
  go_wp2
  have c3 := Later.cell (O.get 0 rfl)
  have cy : ∀ p : Later W, p.1.cell? ⟨y, 5, none⟩ = some (.int .i64 st.r) := fun p => (HL.out.kept (O.keep.trans p.2 (by simp))).y.cell 5
  generalize hcn : cnt S 9 = cn at *
  have HCN : ∀ u, Hid (Calls Try.prog 109 #[.agg (sysV S A c R d), .int .i64 9] u fun e w' => e = .returned (.int .i64 cn) ∧ Keeps u w' []) := fun u => Lib.hid (by rw [← hcn]; exact sharedT_any S A c R d u 9)
  have HCn := Lib.hid hcn
  clear hcn
  refine wp_quiet_later (by kernel_rfl) (by kernel_rfl) ?_
  repeat (first
    | go_big_quiet_skip
    | (refine wpQuiet_load_at (cs := sysV S A c R d) 31 rfl rfl rfl rfl (fun u hu => by obtain ⟨p', rfl⟩ := hu; exact (HL.out.kept (O.keep.trans p'.2 (by simp))).sysAt) Try.underlying27 rfl (by kernel_rfl) ?_; simp only [Act.put, List.setIfInBounds_toArray, List.set_cons_zero, List.set_cons_succ])
    | go_big_quiet_step ((go_at_call 109; exact later_of (HCN _).out)))
  refine wpQuiet_nil ?_
  intro _ hw
  obtain ⟨p', rfl⟩ := hw
  replace O := O.keeps p'.2
  clear c3 cy
  generalize p'.1 = W at O ⊢
  have c3 := (O.get 0 rfl).cell
  go_wp2
  clear c3
  have c3 := Later.cell (O.get 0 rfl)
  have cy : ∀ p : Later W, p.1.cell? ⟨y, 6, none⟩ = some (.map (some bh)) := fun p => (HL.out.kept (O.keep.trans p.2 (by simp))).y.cell 6
  refine wp_quiet_tail_later 6 (by kernel_rfl) (by kernel_rfl) ?_
  simp only [List.take, List.drop]
  repeat (first
    | go_big_quiet_skip
    | go_big_quiet_step (fail))
  refine wpQuiet_nil ?_
  intro _ hw
  obtain ⟨p', rfl⟩ := hw
  replace O := O.keeps p'.2
  clear c3 cy
  generalize p'.1 = W at O ⊢
  refine map_storeB (HL.out.kept O.keep).h 154 Try.underlying154 rfl rfl rfl rfl hwf rfl (by unfold maxLen; omega) ?_
  intro u K M
  have L2 := Lib.hid ((HL.out.kept O.keep).setH K M)
  have K2 := Lib.hid ((O.keep.wide (L' := [y, bh, bs, bt, bu]) (by simp)).trans (K.wide (L' := [y, bh, bs, bt, bu]) (by simp)) (fun b hb _ => hb))
  clear M
  go_wp2
  go_ret
  exact ⟨by rw [HF.out, HB.out]; rfl, K2.out, fun h => (by rw [HN.out]; exact L2.out)⟩
set_option maxRecDepth 100000 in
set_option maxHeartbeats 1000000 in
theorem next_8a (e : Ev) (l : LayAt w S A c R d y bh bs bt bu n st) (he : e.op = 8) (g0 : ¬ e.who < 0) (g1 : ¬ st.r ≤ e.who) (g4 : 0 ≤ cnt S 8) (g5 : ¬ e.a < 0) (g6 : ¬ cnt S 8 ≤ e.a) (hwf : (Lit.int .i64 e.a).wf = true) (_hn : n < 100000) (_hb : ∀ j, 0 ≤ st.sent j ∧ st.sent j ≤ 100000 ∧ 0 ≤ st.took j ∧ st.took j ≤ 100000) (_hr : 0 ≤ st.r ∧ st.r ≤ 100000) (hv : st.held e.a = true) : Calls Try.prog 92 #[.pointer (some ⟨y, 0, none⟩), .agg (evC e)] w (NextPost S A c R d y bh bs bt bu n st e w) := by
  have O := Own.start w []
  have HL := Lib.hid l
  clear l
  have q0 : decide (e.who < 0) = false := decide_eq_false (by omega)
  have q1 : decide (st.r ≤ e.who) = false := decide_eq_false (by omega)
  have HF := Lib.hid (show okE S st e = bodyE st e by simp [okE, headE, he]; omega)
  have HB := Lib.hid (show bodyE st e = false by simp [bodyE, he, hv])
  have HV := Lib.hid hv
  clear hv
  unfold evC
  rw [he]
  go_enter Try.func92, Try.ntmps92
  go_wp2_with (first
    | go_big_skip
    | (refine own_box 3 (#[Value.int .i64 e.who, .int .i64 8, .int .i64 e.a, .int .i64 e.v, .bool e.sh]) O rfl rfl rfl rfl ?_; clear O; intro W a3 O; simp only [Act.put, List.setIfInBounds_toArray, List.set_cons_zero, List.set_cons_succ]))
  have c3 := Later.cell (O.get 0 rfl)
  have cy : ∀ p : Later W, p.1.cell? ⟨y, 5, none⟩ = some (.int .i64 st.r) := fun p => (HL.out.kept (O.keep.trans p.2 (by simp))).y.cell 5
  refine wp_quiet_later (by kernel_rfl) (by kernel_rfl) ?_
  repeat (first
    | go_big_quiet_skip
    | go_big_quiet_step (fail))
  refine wpQuiet_nil ?_
  intro _ hw
  obtain ⟨p', rfl⟩ := hw
  replace O := O.keeps p'.2
  clear c3 cy
  generalize p'.1 = W at O ⊢
  go_wp2
  have c3 := Later.cell (O.get 0 rfl)
  have cy : ∀ p : Later W, p.1.cell? ⟨y, 5, none⟩ = some (.int .i64 st.r) := fun p => (HL.out.kept (O.keep.trans p.2 (by simp))).y.cell 5
  generalize hcn : cnt S 8 = cn at *
  have HCN : ∀ u, Hid (Calls Try.prog 109 #[.agg (sysV S A c R d), .int .i64 8] u fun e w' => e = .returned (.int .i64 cn) ∧ Keeps u w' []) := fun u => Lib.hid (by rw [← hcn]; exact sharedT_any S A c R d u 8)
  have HCn := Lib.hid hcn
  clear hcn
  refine wp_quiet_later (by kernel_rfl) (by kernel_rfl) ?_
  repeat (first
    | go_big_quiet_skip
    | (refine wpQuiet_load_at (cs := sysV S A c R d) 31 rfl rfl rfl rfl (fun u hu => by obtain ⟨p', rfl⟩ := hu; exact (HL.out.kept (O.keep.trans p'.2 (by simp))).sysAt) Try.underlying27 rfl (by kernel_rfl) ?_; simp only [Act.put, List.setIfInBounds_toArray, List.set_cons_zero, List.set_cons_succ])
    | go_big_quiet_step ((go_at_call 109; exact later_of (HCN _).out)))
  refine wpQuiet_nil ?_
  intro _ hw
  obtain ⟨p', rfl⟩ := hw
  replace O := O.keeps p'.2
  clear c3 cy
  generalize p'.1 = W at O ⊢
  have c3 := (O.get 0 rfl).cell
  go_wp2
  clear c3
  have c3 := Later.cell (O.get 0 rfl)
  have cy : ∀ p : Later W, p.1.cell? ⟨y, 6, none⟩ = some (.map (some bh)) := fun p => (HL.out.kept (O.keep.trans p.2 (by simp))).y.cell 6
  have lk : ∀ p : Later W, (Instr.lookup 154 (.map (some bh)) (.int .i64 e.a) false).run Try.prog p.1 = .ok (.bool true) p.1 := fun p => by have := look_eqB (HL.out.kept (O.keep.trans p.2 (by simp))).h 154 Try.underlying154 e.a hwf; rwa [HV.out] at this
  refine wp_quiet_later (by kernel_rfl) (by kernel_rfl) ?_
  repeat (first
    | go_big_quiet_skip
    | go_big_quiet_step (fail))
  refine wpQuiet_nil ?_
  intro _ hw
  obtain ⟨p', rfl⟩ := hw
  replace O := O.keeps p'.2
  clear c3 cy lk
  generalize p'.1 = W at O ⊢
  go_wp2
  go_ret
  exact ⟨by rw [HF.out, HB.out]; rfl, O.keep.wide (by simp), fun h => (by rw [HF.out, HB.out] at h; cases h)⟩
set_option maxRecDepth 100000 in
set_option maxHeartbeats 1000000 in
theorem next_8b (e : Ev) (l : LayAt w S A c R d y bh bs bt bu n st) (he : e.op = 8) (g0 : ¬ e.who < 0) (g1 : ¬ st.r ≤ e.who) (g4 : 0 ≤ cnt S 8) (g5 : ¬ e.a < 0) (g6 : ¬ cnt S 8 ≤ e.a) (hwf : (Lit.int .i64 e.a).wf = true) (hn : n < 100000) (_hb : ∀ j, 0 ≤ st.sent j ∧ st.sent j ≤ 100000 ∧ 0 ≤ st.took j ∧ st.took j ≤ 100000) (_hr : 0 ≤ st.r ∧ st.r ≤ 100000) (hv : st.held e.a = false) : Calls Try.prog 92 #[.pointer (some ⟨y, 0, none⟩), .agg (evC e)] w (NextPost S A c R d y bh bs bt bu n st e w) := by
  have O := Own.start w []
  have HL := Lib.hid l
  clear l
  have q0 : decide (e.who < 0) = false := decide_eq_false (by omega)
  have q1 : decide (st.r ≤ e.who) = false := decide_eq_false (by omega)
  have HF := Lib.hid (show okE S st e = bodyE st e by simp [okE, headE, he]; omega)
  have HB := Lib.hid (show bodyE st e = true by simp [bodyE, he, hv])
  have HN := Lib.hid (show nextE st e = { st with held := updI st.held e.a true } by simp [nextE, he])
  have HV := Lib.hid hv
  clear hv
  unfold evC
  rw [he]
  go_enter Try.func92, Try.ntmps92
  go_wp2_with (first
    | go_big_skip
    | (refine own_box 3 (#[Value.int .i64 e.who, .int .i64 8, .int .i64 e.a, .int .i64 e.v, .bool e.sh]) O rfl rfl rfl rfl ?_; clear O; intro W a3 O; simp only [Act.put, List.setIfInBounds_toArray, List.set_cons_zero, List.set_cons_succ]))
  have c3 := Later.cell (O.get 0 rfl)
  have cy : ∀ p : Later W, p.1.cell? ⟨y, 5, none⟩ = some (.int .i64 st.r) := fun p => (HL.out.kept (O.keep.trans p.2 (by simp))).y.cell 5
  refine wp_quiet_later (by kernel_rfl) (by kernel_rfl) ?_
  repeat (first
    | go_big_quiet_skip
    | go_big_quiet_step (fail))
  refine wpQuiet_nil ?_
  intro _ hw
  obtain ⟨p', rfl⟩ := hw
  replace O := O.keeps p'.2
  clear c3 cy
  generalize p'.1 = W at O ⊢
  go_wp2
  have c3 := Later.cell (O.get 0 rfl)
  have cy : ∀ p : Later W, p.1.cell? ⟨y, 5, none⟩ = some (.int .i64 st.r) := fun p => (HL.out.kept (O.keep.trans p.2 (by simp))).y.cell 5
  generalize hcn : cnt S 8 = cn at *
  have HCN : ∀ u, Hid (Calls Try.prog 109 #[.agg (sysV S A c R d), .int .i64 8] u fun e w' => e = .returned (.int .i64 cn) ∧ Keeps u w' []) := fun u => Lib.hid (by rw [← hcn]; exact sharedT_any S A c R d u 8)
  have HCn := Lib.hid hcn
  clear hcn
  refine wp_quiet_later (by kernel_rfl) (by kernel_rfl) ?_
  repeat (first
    | go_big_quiet_skip
    | (refine wpQuiet_load_at (cs := sysV S A c R d) 31 rfl rfl rfl rfl (fun u hu => by obtain ⟨p', rfl⟩ := hu; exact (HL.out.kept (O.keep.trans p'.2 (by simp))).sysAt) Try.underlying27 rfl (by kernel_rfl) ?_; simp only [Act.put, List.setIfInBounds_toArray, List.set_cons_zero, List.set_cons_succ])
    | go_big_quiet_step ((go_at_call 109; exact later_of (HCN _).out)))
  refine wpQuiet_nil ?_
  intro _ hw
  obtain ⟨p', rfl⟩ := hw
  replace O := O.keeps p'.2
  clear c3 cy
  generalize p'.1 = W at O ⊢
  have c3 := (O.get 0 rfl).cell
  go_wp2
  clear c3
  have c3 := Later.cell (O.get 0 rfl)
  have cy : ∀ p : Later W, p.1.cell? ⟨y, 6, none⟩ = some (.map (some bh)) := fun p => (HL.out.kept (O.keep.trans p.2 (by simp))).y.cell 6
  have lk : ∀ p : Later W, (Instr.lookup 154 (.map (some bh)) (.int .i64 e.a) false).run Try.prog p.1 = .ok (.bool false) p.1 := fun p => by have := look_eqB (HL.out.kept (O.keep.trans p.2 (by simp))).h 154 Try.underlying154 e.a hwf; rwa [HV.out] at this
  refine wp_quiet_later (by kernel_rfl) (by kernel_rfl) ?_
  repeat (first
    | go_big_quiet_skip
    | go_big_quiet_step (fail))
  refine wpQuiet_nil ?_
  intro _ hw
  obtain ⟨p', rfl⟩ := hw
  replace O := O.keeps p'.2
  clear c3 cy lk
  generalize p'.1 = W at O ⊢
  have c3 := (O.get 0 rfl).cell
  go_wp2
  clear c3
  have c3 := Later.cell (O.get 0 rfl)
  have cy : ∀ p : Later W, p.1.cell? ⟨y, 6, none⟩ = some (.map (some bh)) := fun p => (HL.out.kept (O.keep.trans p.2 (by simp))).y.cell 6
  refine wp_quiet_tail_later 6 (by kernel_rfl) (by kernel_rfl) ?_
  simp only [List.take, List.drop]
  repeat (first
    | go_big_quiet_skip
    | go_big_quiet_step (fail))
  refine wpQuiet_nil ?_
  intro _ hw
  obtain ⟨p', rfl⟩ := hw
  replace O := O.keeps p'.2
  clear c3 cy
  generalize p'.1 = W at O ⊢
  refine map_storeB (HL.out.kept O.keep).h 154 Try.underlying154 rfl rfl rfl rfl hwf rfl (by unfold maxLen; omega) ?_
  intro u K M
  have L2 := Lib.hid ((HL.out.kept O.keep).setH K M)
  have K2 := Lib.hid ((O.keep.wide (L' := [y, bh, bs, bt, bu]) (by simp)).trans (K.wide (L' := [y, bh, bs, bt, bu]) (by simp)) (fun b hb _ => hb))
  clear M
  go_wp2
  go_ret
  exact ⟨by rw [HF.out, HB.out]; rfl, K2.out, fun h => (by rw [HN.out]; exact L2.out)⟩
set_option maxRecDepth 100000 in
set_option maxHeartbeats 1000000 in
theorem next_6s (e : Ev) (l : LayAt w S A c R d y bh bs bt bu n st) (he : e.op = 6) (g0 : ¬ e.who < 0) (g1 : ¬ st.r ≤ e.who) (g4 : 0 ≤ cnt S 6) (g5 : ¬ e.a < 0) (g6 : ¬ cnt S 6 ≤ e.a) (hwf : (Lit.int .i64 e.a).wf = true) (_hn : n < 100000) (_hb : ∀ j, 0 ≤ st.sent j ∧ st.sent j ≤ 100000 ∧ 0 ≤ st.took j ∧ st.took j ≤ 100000) (_hr : 0 ≤ st.r ∧ st.r ≤ 100000) (hs : e.sh = true) : Calls Try.prog 92 #[.pointer (some ⟨y, 0, none⟩), .agg (evC e)] w (NextPost S A c R d y bh bs bt bu n st e w) := by
  have O := Own.start w []
  have HL := Lib.hid l
  clear l
  have q0 : decide (e.who < 0) = false := decide_eq_false (by omega)
  have q1 : decide (st.r ≤ e.who) = false := decide_eq_false (by omega)
  have HF := Lib.hid (show okE S st e = bodyE st e by simp [okE, headE, he]; omega)
  have HB := Lib.hid (show bodyE st e = st.shut e.a by simp [bodyE, he, hs])
  have HN := Lib.hid (show nextE st e = st by simp [nextE, he, hs])
  unfold evC
  rw [he, hs]
  go_enter Try.func92, Try.ntmps92
  go_wp2_with (first
    | go_big_skip
    | (refine own_box 3 (#[Value.int .i64 e.who, .int .i64 6, .int .i64 e.a, .int .i64 e.v, .bool true]) O rfl rfl rfl rfl ?_; clear O; intro W a3 O; simp only [Act.put, List.setIfInBounds_toArray, List.set_cons_zero, List.set_cons_succ]))
  have c3 := Later.cell (O.get 0 rfl)
  have cy : ∀ p : Later W, p.1.cell? ⟨y, 5, none⟩ = some (.int .i64 st.r) := fun p => (HL.out.kept (O.keep.trans p.2 (by simp))).y.cell 5
  refine wp_quiet_later (by kernel_rfl) (by kernel_rfl) ?_
  repeat (first
    | go_big_quiet_skip
    | go_big_quiet_step (fail))
  refine wpQuiet_nil ?_
  intro _ hw
  obtain ⟨p', rfl⟩ := hw
  replace O := O.keeps p'.2
  clear c3 cy
  generalize p'.1 = W at O ⊢
  go_wp2
  have c3 := Later.cell (O.get 0 rfl)
  have cy : ∀ p : Later W, p.1.cell? ⟨y, 5, none⟩ = some (.int .i64 st.r) := fun p => (HL.out.kept (O.keep.trans p.2 (by simp))).y.cell 5
  generalize hcn : cnt S 6 = cn at *
  have HCN : ∀ u, Hid (Calls Try.prog 109 #[.agg (sysV S A c R d), .int .i64 6] u fun e w' => e = .returned (.int .i64 cn) ∧ Keeps u w' []) := fun u => Lib.hid (by rw [← hcn]; exact sharedT_any S A c R d u 6)
  have HCn := Lib.hid hcn
  clear hcn
  refine wp_quiet_later (by kernel_rfl) (by kernel_rfl) ?_
  repeat (first
    | go_big_quiet_skip
    | (refine wpQuiet_load_at (cs := sysV S A c R d) 31 rfl rfl rfl rfl (fun u hu => by obtain ⟨p', rfl⟩ := hu; exact (HL.out.kept (O.keep.trans p'.2 (by simp))).sysAt) Try.underlying27 rfl (by kernel_rfl) ?_; simp only [Act.put, List.setIfInBounds_toArray, List.set_cons_zero, List.set_cons_succ])
    | go_big_quiet_step ((go_at_call 109; exact later_of (HCN _).out)))
  refine wpQuiet_nil ?_
  intro _ hw
  obtain ⟨p', rfl⟩ := hw
  replace O := O.keeps p'.2
  clear c3 cy
  generalize p'.1 = W at O ⊢
  have c3 := (O.get 0 rfl).cell
  go_wp2
  clear c3
  have c3 := Later.cell (O.get 0 rfl)
  have cy : ∀ p : Later W, p.1.cell? ⟨y, 9, none⟩ = some (.map (some bu)) := fun p => (HL.out.kept (O.keep.trans p.2 (by simp))).y.cell 9
  have lk : ∀ p : Later W, (Instr.lookup 154 (.map (some bu)) (.int .i64 e.a) false).run Try.prog p.1 = .ok (.bool (st.shut e.a)) p.1 := fun p => by have := look_eqB (HL.out.kept (O.keep.trans p.2 (by simp))).u 154 Try.underlying154 e.a hwf; exact this
  refine wp_quiet_later (by kernel_rfl) (by kernel_rfl) ?_
  repeat (first
    | go_big_quiet_skip
    | go_big_quiet_step (fail))
  refine wpQuiet_nil ?_
  intro _ hw
  obtain ⟨p', rfl⟩ := hw
  replace O := O.keeps p'.2
  clear c3 cy lk
  generalize p'.1 = W at O ⊢
  go_wp2
  go_ret
  exact ⟨by rw [HF.out, HB.out]; rfl, O.keep.wide (by simp), fun h => (by rw [HN.out]; exact (HL.out.kept O.keep).mono (by omega))⟩
set_option maxRecDepth 100000 in
set_option maxHeartbeats 1000000 in
theorem next_6t (e : Ev) (l : LayAt w S A c R d y bh bs bt bu n st) (he : e.op = 6) (g0 : ¬ e.who < 0) (g1 : ¬ st.r ≤ e.who) (g4 : 0 ≤ cnt S 6) (g5 : ¬ e.a < 0) (g6 : ¬ cnt S 6 ≤ e.a) (hwf : (Lit.int .i64 e.a).wf = true) (hn : n < 100000) (hb : ∀ j, 0 ≤ st.sent j ∧ st.sent j ≤ 100000 ∧ 0 ≤ st.took j ∧ st.took j ≤ 100000) (_hr : 0 ≤ st.r ∧ st.r ≤ 100000) (hs : e.sh = false) : Calls Try.prog 92 #[.pointer (some ⟨y, 0, none⟩), .agg (evC e)] w (NextPost S A c R d y bh bs bt bu n st e w) := by
  have O := Own.start w []
  have HL := Lib.hid l
  clear l
  have q0 : decide (e.who < 0) = false := decide_eq_false (by omega)
  have q1 : decide (st.r ≤ e.who) = false := decide_eq_false (by omega)
  have HF := Lib.hid (show okE S st e = bodyE st e by simp [okE, headE, he]; omega)
  have HB := Lib.hid (show bodyE st e = decide (st.took e.a + 1 ≤ st.sent e.a) by simp [bodyE, he, hs])
  have HN := Lib.hid (show nextE st e = { st with took := updI st.took e.a (st.took e.a + 1) } by simp [nextE, he, hs])
  have r1 : IntKind.i64.wrap (st.took e.a + 1) = st.took e.a + 1 := IntWalk.i64_in _ (by have := hb e.a; omega)
  unfold evC
  rw [he, hs]
  go_enter Try.func92, Try.ntmps92
  go_wp2_with (first
    | go_big_skip
    | (refine own_box 3 (#[Value.int .i64 e.who, .int .i64 6, .int .i64 e.a, .int .i64 e.v, .bool false]) O rfl rfl rfl rfl ?_; clear O; intro W a3 O; simp only [Act.put, List.setIfInBounds_toArray, List.set_cons_zero, List.set_cons_succ]))
  have c3 := Later.cell (O.get 0 rfl)
  have cy : ∀ p : Later W, p.1.cell? ⟨y, 5, none⟩ = some (.int .i64 st.r) := fun p => (HL.out.kept (O.keep.trans p.2 (by simp))).y.cell 5
  refine wp_quiet_later (by kernel_rfl) (by kernel_rfl) ?_
  repeat (first
    | go_big_quiet_skip
    | go_big_quiet_step (fail))
  refine wpQuiet_nil ?_
  intro _ hw
  obtain ⟨p', rfl⟩ := hw
  replace O := O.keeps p'.2
  clear c3 cy
  generalize p'.1 = W at O ⊢
  go_wp2
  have c3 := Later.cell (O.get 0 rfl)
  have cy : ∀ p : Later W, p.1.cell? ⟨y, 5, none⟩ = some (.int .i64 st.r) := fun p => (HL.out.kept (O.keep.trans p.2 (by simp))).y.cell 5
  generalize hcn : cnt S 6 = cn at *
  have HCN : ∀ u, Hid (Calls Try.prog 109 #[.agg (sysV S A c R d), .int .i64 6] u fun e w' => e = .returned (.int .i64 cn) ∧ Keeps u w' []) := fun u => Lib.hid (by rw [← hcn]; exact sharedT_any S A c R d u 6)
  have HCn := Lib.hid hcn
  clear hcn
  refine wp_quiet_later (by kernel_rfl) (by kernel_rfl) ?_
  repeat (first
    | go_big_quiet_skip
    | (refine wpQuiet_load_at (cs := sysV S A c R d) 31 rfl rfl rfl rfl (fun u hu => by obtain ⟨p', rfl⟩ := hu; exact (HL.out.kept (O.keep.trans p'.2 (by simp))).sysAt) Try.underlying27 rfl (by kernel_rfl) ?_; simp only [Act.put, List.setIfInBounds_toArray, List.set_cons_zero, List.set_cons_succ])
    | go_big_quiet_step ((go_at_call 109; exact later_of (HCN _).out)))
  refine wpQuiet_nil ?_
  intro _ hw
  obtain ⟨p', rfl⟩ := hw
  replace O := O.keeps p'.2
  clear c3 cy
  generalize p'.1 = W at O ⊢
  have c3 := (O.get 0 rfl).cell
  go_wp2
  clear c3
  have c3 := Later.cell (O.get 0 rfl)
  have cy : ∀ p : Later W, p.1.cell? ⟨y, 8, none⟩ = some (.map (some bt)) := fun p => (HL.out.kept (O.keep.trans p.2 (by simp))).y.cell 8
  have lk : ∀ p : Later W, (Instr.lookup 117 (.map (some bt)) (.int .i64 e.a) false).run Try.prog p.1 = .ok (.int .i64 (st.took e.a)) p.1 := fun p => look_eqI (HL.out.kept (O.keep.trans p.2 (by simp))).t 117 Try.underlying117 e.a hwf
  refine wp_quiet_tail_later 8 (by kernel_rfl) (by kernel_rfl) ?_
  simp only [List.take, List.drop]
  repeat (first
    | go_big_quiet_skip
    | go_big_quiet_step (fail))
  refine wpQuiet_nil ?_
  intro _ hw
  obtain ⟨p', rfl⟩ := hw
  replace O := O.keeps p'.2
  clear c3 cy lk
  generalize p'.1 = W at O ⊢
  refine map_storeI (HL.out.kept O.keep).t 117 Try.underlying117 rfl rfl rfl rfl hwf rfl (WalkArith.wf_i64 (by have := hb e.a; omega)) (by unfold maxLen; omega) ?_
  intro u K M
  simp only [Act.put]
  have B3 := (O.get 0 rfl).keeps K (by simpa using (HL.out.kept O.keep).t.not_blk (O.get 0 rfl))
  have L2 := Lib.hid ((HL.out.kept O.keep).setT K M)
  have K2 := Lib.hid ((O.keep.wide (L' := [y, bh, bs, bt, bu]) (by simp)).trans (K.wide (L' := [y, bh, bs, bt, bu]) (by simp)) (fun b hb _ => hb))
  clear M
  go_wp2
  have c3 := Later.cell B3
  have cy1 : ∀ p : Later u, p.1.cell? ⟨y, 8, none⟩ = some (.map (some bt)) := fun p => (L2.out.kept p.2).y.cell 8
  have cy2 : ∀ p : Later u, p.1.cell? ⟨y, 7, none⟩ = some (.map (some bs)) := fun p => (L2.out.kept p.2).y.cell 7
  have lk1 : ∀ p : Later u, (Instr.lookup 117 (.map (some bt)) (.int .i64 e.a) false).run Try.prog p.1 = .ok (.int .i64 (st.took e.a + 1)) p.1 := fun p => by simpa using look_eqI (L2.out.kept p.2).t 117 Try.underlying117 e.a hwf
  have lk2 : ∀ p : Later u, (Instr.lookup 117 (.map (some bs)) (.int .i64 e.a) false).run Try.prog p.1 = .ok (.int .i64 (st.sent e.a)) p.1 := fun p => look_eqI (L2.out.kept p.2).s 117 Try.underlying117 e.a hwf
  refine wp_quiet_later (by kernel_rfl) (by kernel_rfl) ?_
  repeat (first
    | go_big_quiet_skip
    | go_big_quiet_step (fail))
  refine wpQuiet_nil ?_
  intro _ hw
  obtain ⟨p', rfl⟩ := hw
  have K3 := Lib.hid (K2.out.trans p'.2 (by simp))
  have L3 := Lib.hid (L2.out.kept p'.2)
  clear c3 cy1 cy2 lk1 lk2 L2 K2
  generalize p'.1 = W3 at K3 L3 ⊢
  go_wp2
  go_ret
  exact ⟨by rw [HF.out, HB.out]; rfl, K3.out, fun _ => by rw [HN.out]; exact L3.out⟩
set_option maxRecDepth 100000 in
set_option maxHeartbeats 1000000 in
theorem next_o0 (e : Ev) (l : LayAt w S A c R d y bh bs bt bu n st) (g0 : ¬ e.who < 0) (g1 : ¬ st.r ≤ e.who) (g2 : ¬ e.op < 1) (g3 : ¬ 16 < e.op) (g4 : cnt S e.op < 0) (_hwf : (Lit.int .i64 e.a).wf = true) (_hn : n < 100000) (_hb : ∀ j, 0 ≤ st.sent j ∧ st.sent j ≤ 100000 ∧ 0 ≤ st.took j ∧ st.took j ≤ 100000) (_hr : 0 ≤ st.r ∧ st.r ≤ 100000) (h5 : ¬ e.op = 5) (h6 : ¬ e.op = 6) (h7 : ¬ e.op = 7) (h8 : ¬ e.op = 8) (h9 : ¬ e.op = 9) (h14 : ¬ e.op = 14) : Calls Try.prog 92 #[.pointer (some ⟨y, 0, none⟩), .agg (evC e)] w (NextPost S A c R d y bh bs bt bu n st e w) := by
  have O := Own.start w []
  have HL := Lib.hid l
  clear l
  have q0 : decide (e.who < 0) = false := decide_eq_false (by omega)
  have q1 : decide (st.r ≤ e.who) = false := decide_eq_false (by omega)
  have q2 : decide (e.op < 1) = false := decide_eq_false (by omega)
  have q3 : decide (16 < e.op) = false := decide_eq_false (by omega)
  have HF := Lib.hid (show okE S st e = bodyE st e by simp [okE, headE]; omega)
  have HB := Lib.hid (show bodyE st e = true by simp [bodyE, h6, h8, h14])
  have HN := Lib.hid (show nextE st e = st by simp [nextE, h5, h6, h7, h8, h9, h14])
  unfold evC

  go_enter Try.func92, Try.ntmps92
  go_wp2_with (first
    | go_big_skip
    | (refine own_box 3 (#[Value.int .i64 e.who, .int .i64 e.op, .int .i64 e.a, .int .i64 e.v, .bool e.sh]) O rfl rfl rfl rfl ?_; clear O; intro W a3 O; simp only [Act.put, List.setIfInBounds_toArray, List.set_cons_zero, List.set_cons_succ]))
  have c3 := Later.cell (O.get 0 rfl)
  have cy : ∀ p : Later W, p.1.cell? ⟨y, 5, none⟩ = some (.int .i64 st.r) := fun p => (HL.out.kept (O.keep.trans p.2 (by simp))).y.cell 5
  refine wp_quiet_later (by kernel_rfl) (by kernel_rfl) ?_
  repeat (first
    | go_big_quiet_skip
    | go_big_quiet_step (fail))
  refine wpQuiet_nil ?_
  intro _ hw
  obtain ⟨p', rfl⟩ := hw
  replace O := O.keeps p'.2
  clear c3 cy
  generalize p'.1 = W at O ⊢
  go_wp2
  have c3 := Later.cell (O.get 0 rfl)
  have cy : ∀ p : Later W, p.1.cell? ⟨y, 5, none⟩ = some (.int .i64 st.r) := fun p => (HL.out.kept (O.keep.trans p.2 (by simp))).y.cell 5
  generalize hcn : cnt S e.op = cn at *
  have HCN : ∀ u, Hid (Calls Try.prog 109 #[.agg (sysV S A c R d), .int .i64 e.op] u fun e w' => e = .returned (.int .i64 cn) ∧ Keeps u w' []) := fun u => Lib.hid (by rw [← hcn]; exact sharedT_any S A c R d u e.op)
  have HCn := Lib.hid hcn
  clear hcn
  refine wp_quiet_later (by kernel_rfl) (by kernel_rfl) ?_
  repeat (first
    | go_big_quiet_skip
    | (refine wpQuiet_load_at (cs := sysV S A c R d) 31 rfl rfl rfl rfl (fun u hu => by obtain ⟨p', rfl⟩ := hu; exact (HL.out.kept (O.keep.trans p'.2 (by simp))).sysAt) Try.underlying27 rfl (by kernel_rfl) ?_; simp only [Act.put, List.setIfInBounds_toArray, List.set_cons_zero, List.set_cons_succ])
    | go_big_quiet_step ((go_at_call 109; exact later_of (HCN _).out)))
  refine wpQuiet_nil ?_
  intro _ hw
  obtain ⟨p', rfl⟩ := hw
  replace O := O.keeps p'.2
  clear c3 cy
  generalize p'.1 = W at O ⊢
  have c3 := (O.get 0 rfl).cell
  go_wp2
  go_ret
  exact ⟨by rw [HF.out, HB.out]; rfl, O.keep.wide (by simp), fun h => (by rw [HN.out]; exact (HL.out.kept O.keep).mono (by omega))⟩
set_option maxRecDepth 100000 in
set_option maxHeartbeats 1000000 in
theorem next_o1 (e : Ev) (l : LayAt w S A c R d y bh bs bt bu n st) (g0 : ¬ e.who < 0) (g1 : ¬ st.r ≤ e.who) (g2 : ¬ e.op < 1) (g3 : ¬ 16 < e.op) (g4 : 0 ≤ cnt S e.op) (g5 : ¬ e.a < 0) (g6 : ¬ cnt S e.op ≤ e.a) (_hwf : (Lit.int .i64 e.a).wf = true) (_hn : n < 100000) (_hb : ∀ j, 0 ≤ st.sent j ∧ st.sent j ≤ 100000 ∧ 0 ≤ st.took j ∧ st.took j ≤ 100000) (_hr : 0 ≤ st.r ∧ st.r ≤ 100000) (h5 : ¬ e.op = 5) (h6 : ¬ e.op = 6) (h7 : ¬ e.op = 7) (h8 : ¬ e.op = 8) (h9 : ¬ e.op = 9) (h14 : ¬ e.op = 14) : Calls Try.prog 92 #[.pointer (some ⟨y, 0, none⟩), .agg (evC e)] w (NextPost S A c R d y bh bs bt bu n st e w) := by
  have O := Own.start w []
  have HL := Lib.hid l
  clear l
  have q0 : decide (e.who < 0) = false := decide_eq_false (by omega)
  have q1 : decide (st.r ≤ e.who) = false := decide_eq_false (by omega)
  have q2 : decide (e.op < 1) = false := decide_eq_false (by omega)
  have q3 : decide (16 < e.op) = false := decide_eq_false (by omega)
  have HF := Lib.hid (show okE S st e = bodyE st e by simp [okE, headE]; omega)
  have HB := Lib.hid (show bodyE st e = true by simp [bodyE, h6, h8, h14])
  have HN := Lib.hid (show nextE st e = st by simp [nextE, h5, h6, h7, h8, h9, h14])
  unfold evC

  go_enter Try.func92, Try.ntmps92
  go_wp2_with (first
    | go_big_skip
    | (refine own_box 3 (#[Value.int .i64 e.who, .int .i64 e.op, .int .i64 e.a, .int .i64 e.v, .bool e.sh]) O rfl rfl rfl rfl ?_; clear O; intro W a3 O; simp only [Act.put, List.setIfInBounds_toArray, List.set_cons_zero, List.set_cons_succ]))
  have c3 := Later.cell (O.get 0 rfl)
  have cy : ∀ p : Later W, p.1.cell? ⟨y, 5, none⟩ = some (.int .i64 st.r) := fun p => (HL.out.kept (O.keep.trans p.2 (by simp))).y.cell 5
  refine wp_quiet_later (by kernel_rfl) (by kernel_rfl) ?_
  repeat (first
    | go_big_quiet_skip
    | go_big_quiet_step (fail))
  refine wpQuiet_nil ?_
  intro _ hw
  obtain ⟨p', rfl⟩ := hw
  replace O := O.keeps p'.2
  clear c3 cy
  generalize p'.1 = W at O ⊢
  go_wp2
  have c3 := Later.cell (O.get 0 rfl)
  have cy : ∀ p : Later W, p.1.cell? ⟨y, 5, none⟩ = some (.int .i64 st.r) := fun p => (HL.out.kept (O.keep.trans p.2 (by simp))).y.cell 5
  generalize hcn : cnt S e.op = cn at *
  have HCN : ∀ u, Hid (Calls Try.prog 109 #[.agg (sysV S A c R d), .int .i64 e.op] u fun e w' => e = .returned (.int .i64 cn) ∧ Keeps u w' []) := fun u => Lib.hid (by rw [← hcn]; exact sharedT_any S A c R d u e.op)
  have HCn := Lib.hid hcn
  clear hcn
  refine wp_quiet_later (by kernel_rfl) (by kernel_rfl) ?_
  repeat (first
    | go_big_quiet_skip
    | (refine wpQuiet_load_at (cs := sysV S A c R d) 31 rfl rfl rfl rfl (fun u hu => by obtain ⟨p', rfl⟩ := hu; exact (HL.out.kept (O.keep.trans p'.2 (by simp))).sysAt) Try.underlying27 rfl (by kernel_rfl) ?_; simp only [Act.put, List.setIfInBounds_toArray, List.set_cons_zero, List.set_cons_succ])
    | go_big_quiet_step ((go_at_call 109; exact later_of (HCN _).out)))
  refine wpQuiet_nil ?_
  intro _ hw
  obtain ⟨p', rfl⟩ := hw
  replace O := O.keeps p'.2
  clear c3 cy
  generalize p'.1 = W at O ⊢
  have c3 := (O.get 0 rfl).cell
  go_wp2
  go_ret
  exact ⟨by rw [HF.out, HB.out]; rfl, O.keep.wide (by simp), fun h => (by rw [HN.out]; exact (HL.out.kept O.keep).mono (by omega))⟩
/-- (*lay).next of trace. -/
theorem next_any (hh : headB S = true) (e : Ev) (l : LayAt w S A c R d y bh bs bt bu n st) (hwf : (Lit.int .i64 e.a).wf = true) (hn : n < 100000) (hb : ∀ j, 0 ≤ st.sent j ∧ st.sent j ≤ 100000 ∧ 0 ≤ st.took j ∧ st.took j ≤ 100000) (hr : 0 ≤ st.r ∧ st.r ≤ 100000) :
    Calls Try.prog 92 #[.pointer (some ⟨y, 0, none⟩), .agg (evC e)] w (NextPost S A c R d y bh bs bt bu n st e w) := by
  obtain ⟨h0, h1, h2, h3, h4, h5⟩ := (headB_iff S).1 hh
  rw [shB_iff] at h3 h4 h5
  by_cases g0 : e.who < 0
  · exact next_bad0 e l g0
  by_cases g1 : st.r ≤ e.who
  · exact next_bad1 e l g0 g1
  by_cases g2 : e.op < 1
  · exact next_bad2 e l g0 g1 g2
  by_cases g3 : 16 < e.op
  · exact next_bad3 e l g0 g1 g2 g3
  by_cases g4 : cnt S e.op < 0
  · exact next_o0 e l g0 g1 g2 g3 g4 hwf hn hb hr (fun h => by rw [h] at g4; simp [cnt] at g4; omega) (fun h => by rw [h] at g4; simp [cnt] at g4; omega) (fun h => by rw [h] at g4; simp [cnt] at g4; omega) (fun h => by rw [h] at g4; simp [cnt] at g4; omega) (fun h => by rw [h] at g4; simp [cnt] at g4; omega) (fun h => by rw [h] at g4; simp [cnt] at g4; omega)
  by_cases g5 : e.a < 0
  · exact next_bada0 e l g0 g1 g2 g3 (by omega) g5
  by_cases g6 : cnt S e.op ≤ e.a
  · exact next_bada1 e l g0 g1 g2 g3 (by omega) g5 g6
  by_cases o5 : e.op = 5
  · rw [o5] at g4 g6; exact next_5 e l o5 g0 g1 (by omega) g5 g6 hwf hn hb hr
  by_cases o6 : e.op = 6
  · rw [o6] at g4 g6
    cases hs : e.sh with
    | true => exact next_6s e l o6 g0 g1 (by omega) g5 g6 hwf hn hb hr hs
    | false => exact next_6t e l o6 g0 g1 (by omega) g5 g6 hwf hn hb hr hs
  by_cases o7 : e.op = 7
  · rw [o7] at g4 g6; exact next_7 e l o7 g0 g1 (by omega) g5 g6 hwf hn hb hr
  by_cases o8 : e.op = 8
  · rw [o8] at g4 g6
    cases hs : st.held e.a with
    | true => exact next_8a e l o8 g0 g1 (by omega) g5 g6 hwf hn hb hr hs
    | false => exact next_8b e l o8 g0 g1 (by omega) g5 g6 hwf hn hb hr hs
  by_cases o9 : e.op = 9
  · rw [o9] at g4 g6; exact next_9 e l o9 g0 g1 (by omega) g5 g6 hwf hn hb hr
  by_cases o14 : e.op = 14
  · rw [o14] at g4 g6
    by_cases v0 : e.v = 0
    · exact next_14a e l o14 g0 g1 (by omega) g5 g6 hwf hn hb hr v0
    by_cases v1 : e.v = st.r
    · by_cases v2 : 512 ≤ st.r
      · exact next_14c e l o14 g0 g1 (by omega) g5 g6 hwf hn hb hr v0 v1 v2
      · exact next_14d e l o14 g0 g1 (by omega) g5 g6 hwf hn hb hr v0 v1 v2
    · exact next_14b e l o14 g0 g1 (by omega) g5 g6 hwf hn hb hr v0 v1
  exact next_o1 e l g0 g1 g2 g3 (by omega) g5 g6 hwf hn hb hr o5 o6 o7 o8 o9 o14
end
end Go.Proofs.Ytakmcpadkanggaa
namespace Go.Proofs.Ytakmcpadkanggaa
open Go.RowKit Go.Maps
section
variable {ops : Array Oper} {rest : List Oper} {o : Oper} {a : Act} {w W : World} {Q : Exit → Act → World → Prop} {S : List Nat} {L : List Ent} {T : TypeId}
theorem own_makeMap (d : Nat) (O : Own w W S L) (_hd : o.dst = some d) (hgd : o.guard = none) (ho : o.op = .makeMap T none)
    (h : ∀ u b, Own w u S L → Keeps W u [] → MapB u b 0 (fun _ => false) → MapI u b 0 (fun _ => 0) → W.heap.size ≤ b → wpList Try.prog ops Q rest (a.put o.dst (.map (some b))) u) : wpList Try.prog ops Q (o :: rest) a W := by
  refine wpList_plain hgd fun K hK => ?_
  have k := (Keeps.refl W []).alloc (.map #[] 0)
  unfold Oper.wp execOp
  simp only [ho, Sem.run_bind, Sem.run_pure]
  exact hK _ _ (h _ _ (O.keeps k) k (MapB.made W) (MapI.made W) (Nat.le_refl _))
end
theorem layV_cell (S : Sys) (A : Option Addr) (c : Nat) (R : Option Addr) (d : Nat) (r : Int) (bh bs bt bu : Nat) : ∀ v ∈ (layV S A c R d r bh bs bt bu).toList, v.oneCell' = true := by
  intro v hv
  simp only [layV, List.mem_cons, List.not_mem_nil, or_false] at hv
  rcases hv with rfl | rfl | rfl | rfl | rfl | rfl | rfl | rfl | rfl | rfl <;> rfl
/-- The first event that may not be. -/
def firstBad (S : Sys) (E : Nat → Ev) (n : Nat) : Option Nat := (List.range n).find? fun j => !okE S (stN E j) (E j)
theorem firstBad_none {S : Sys} {E : Nat → Ev} {n : Nat} (h : ∀ j, j < n → okE S (stN E j) (E j) = true) : firstBad S E n = none := by
  unfold firstBad
  rw [List.find?_eq_none]
  intro x hx
  simp [h x (List.mem_range.1 hx)]
theorem firstBad_some {S : Sys} {E : Nat → Ev} {n k : Nat} (h : ∀ j, j < k → okE S (stN E j) (E j) = true) (hk : k < n) (hb : okE S (stN E k) (E k) = false) : firstBad S E n = some k := by
  unfold firstBad
  rw [List.find?_range_eq_some]
  exact ⟨by simp [hb], List.mem_range.2 hk, fun j hj => by simp [h j hj]⟩
/-- What through tells: how many runners, the first wrong event, the error. -/
def thr (S : Sys) (E : Nat → Ev) (n : Nat) : Int × Int × Int :=
  if validB S then (if 40000 < n then (0, 0, 2) else match firstBad S E n with | some i => (0, (i : Int), 140) | none => ((stN E n).r, 0, 0)) else (0, 0, 130)
def thrV (x : Int × Int × Int) : Value := .tuple #[.int .i64 x.1, .int .i64 x.2.1, .int .i64 x.2.2]
section
variable {w : World} {S : Sys} {A : Option Addr} {c : Nat} {R : Option Addr} {d n : Nat} {E : Nat → Ev} {B : Option Addr} {cb : Nat}
set_option maxRecDepth 100000 in
theorem through_sys (hS : SysIn w S A c R d) (h : validB S = false) : Calls Try.prog 60 #[.agg (sysV S A c R d), .slice B n cb] w fun e w' => e = .returned (thrV (thr S E n)) ∧ Keeps w w' [] := by
  have O := Own.start w []
  have HV : ∀ u, Keeps w u [] → Hid (Calls Try.prog 21 #[.agg (sysV S A c R d)] u fun e w' => e = .returned (.int .i64 130) ∧ Keeps u w' []) := fun u k => Lib.hid (by have := valid_any (hS.kept k); rwa [validE_no h] at this)
  have HF := Lib.hid (show thr S E n = (0, 0, 130) by simp [thr, h])
  clear h hS
  go_enter Try.func60, Try.ntmps60
  go_wp2_with (first
    | go_big_skip
    | (refine own_box 2 (sysV S A c R d) O rfl rfl rfl rfl ?_; clear O; intro W a2 O; simp only [Act.put, List.setIfInBounds_toArray, List.set_cons_zero, List.set_cons_succ])
    | (refine own_load 11 0 O rfl rfl rfl rfl rfl Try.underlying27 rfl (by kernel_rfl) ?_; simp only [Act.put, List.setIfInBounds_toArray, List.set_cons_zero, List.set_cons_succ])
    | (go_at_call 21; refine ((HV _ O.keep).out).mono ?_; rintro e W ⟨rfl, K⟩; replace O := O.keeps K; clear K))
  go_returns
  exact ⟨by rw [HF.out]; rfl, O.keep⟩
set_option maxRecDepth 100000 in
theorem through_long (hS : SysIn w S A c R d) (h : validB S = true) (hn : 40000 < n) : Calls Try.prog 60 #[.agg (sysV S A c R d), .slice B n cb] w fun e w' => e = .returned (thrV (thr S E n)) ∧ Keeps w w' [] := by
  have O := Own.start w []
  have HV : ∀ u, Keeps w u [] → Hid (Calls Try.prog 21 #[.agg (sysV S A c R d)] u fun e w' => e = .returned (.int .i64 0) ∧ Keeps u w' []) := fun u k => Lib.hid (by have := valid_any (hS.kept k); rwa [validE_yes h] at this)
  have HF := Lib.hid (show thr S E n = (0, 0, 2) by simp [thr, h, hn])
  have g0 : 40000 < (n : Int) := by omega
  clear h hS
  go_enter Try.func60, Try.ntmps60
  go_wp2_with (first
    | go_big_skip
    | (refine own_box 2 (sysV S A c R d) O rfl rfl rfl rfl ?_; clear O; intro W a2 O; simp only [Act.put, List.setIfInBounds_toArray, List.set_cons_zero, List.set_cons_succ])
    | (refine own_load 11 0 O rfl rfl rfl rfl rfl Try.underlying27 rfl (by kernel_rfl) ?_; simp only [Act.put, List.setIfInBounds_toArray, List.set_cons_zero, List.set_cons_succ])
    | (go_at_call 21; refine ((HV _ O.keep).out).mono ?_; rintro e W ⟨rfl, K⟩; replace O := O.keeps K; clear K))
  go_returns
  exact ⟨by rw [HF.out]; rfl, O.keep⟩
def LAYZ : Array Value := #[.slice none 0 0, .slice none 0 0, .int .i64 0, .int .i64 0, .int .i64 0, .int .i64 0, .map none, .map none, .map none, .map none]
set_option maxRecDepth 100000 in
set_option maxHeartbeats 1000000 in
theorem through_main (hS : SysIn w S A c R d) (h : validB S = true) (hn : n ≤ 40000) (hE : EvsAt w B n E) (hwf : ∀ i, i < n → (Lit.int .i64 (E i).a).wf = true) : Calls Try.prog 60 #[.agg (sysV S A c R d), .slice B n cb] w fun e w' => e = .returned (thrV (thr S E n)) ∧ Keeps w w' [] := by
  have O := Own.start w []
  have HV : ∀ u, Keeps w u [] → Hid (Calls Try.prog 21 #[.agg (sysV S A c R d)] u fun e w' => e = .returned (.int .i64 0) ∧ Keeps u w' []) := fun u k => Lib.hid (by have := valid_any (hS.kept k); rwa [validE_yes h] at this)
  have HF := Lib.hid (show thr S E n = match firstBad S E n with | some i => (0, (i : Int), 140) | none => ((stN E n).r, 0, 0) by simp [thr, h]; omega)
  have HH := Lib.hid ((validB_iff S).1 h).1
  have g0 : ¬ 40000 < (n : Int) := by omega
  have HE := Lib.hid hE
  have HWF := Lib.hid hwf
  clear h hS hE hwf
  go_enter Try.func60, Try.ntmps60
  go_wp2_with (first
    | go_big_skip
    | (refine own_box 2 (sysV S A c R d) O rfl rfl rfl rfl ?_; clear O; intro W a2 O; simp only [Act.put, List.setIfInBounds_toArray, List.set_cons_zero, List.set_cons_succ])
    | (refine own_load 11 0 O rfl rfl rfl rfl rfl Try.underlying27 rfl (by kernel_rfl) ?_; simp only [Act.put, List.setIfInBounds_toArray, List.set_cons_zero, List.set_cons_succ])
    | (go_at_call 21; refine ((HV _ O.keep).out).mono ?_; rintro e W ⟨rfl, K⟩; replace O := O.keeps K; clear K)
    | (refine own_load 19 0 O rfl rfl rfl rfl rfl Try.underlying27 rfl (by kernel_rfl) ?_; simp only [Act.put, List.setIfInBounds_toArray, List.set_cons_zero, List.set_cons_succ])
    | (refine at_dst 20 rfl ?_; have HW := O.keep.size; refine own_makeMap 20 O rfl rfl rfl ?_; clear O; intro W bh O Kx Mb Mi hb; have Mh := Mb; clear Mb Mi; have z_bh : w.heap.size ≤ bh := Nat.le_trans HW hb; clear HW Kx hb; simp only [Act.put, List.setIfInBounds_toArray, List.set_cons_zero, List.set_cons_succ])
    | (refine at_dst 21 rfl ?_; have HW := O.keep.size; refine own_makeMap 21 O rfl rfl rfl ?_; clear O; intro W bs O Kx Mb Mi hb; have n_bh_bs : bh ≠ bs := (by have := Mh.lt; omega); replace Mh := Mh.keeps Kx (by simp); have Ms := Mi; clear Mb Mi; have z_bs : w.heap.size ≤ bs := Nat.le_trans HW hb; clear HW Kx hb; simp only [Act.put, List.setIfInBounds_toArray, List.set_cons_zero, List.set_cons_succ])
    | (refine at_dst 22 rfl ?_; have HW := O.keep.size; refine own_makeMap 22 O rfl rfl rfl ?_; clear O; intro W bt O Kx Mb Mi hb; have n_bh_bt : bh ≠ bt := (by have := Mh.lt; omega); replace Mh := Mh.keeps Kx (by simp); have n_bs_bt : bs ≠ bt := (by have := Ms.lt; omega); replace Ms := Ms.keeps Kx (by simp); have Mt := Mi; clear Mb Mi; have z_bt : w.heap.size ≤ bt := Nat.le_trans HW hb; clear HW Kx hb; simp only [Act.put, List.setIfInBounds_toArray, List.set_cons_zero, List.set_cons_succ])
    | (refine at_dst 23 rfl ?_; have HW := O.keep.size; refine own_makeMap 23 O rfl rfl rfl ?_; clear O; intro W bu O Kx Mb Mi hb; have n_bh_bu : bh ≠ bu := (by have := Mh.lt; omega); replace Mh := Mh.keeps Kx (by simp); have n_bs_bu : bs ≠ bu := (by have := Ms.lt; omega); replace Ms := Ms.keeps Kx (by simp); have n_bt_bu : bt ≠ bu := (by have := Mt.lt; omega); replace Mt := Mt.keeps Kx (by simp); have Mu := Mb; clear Mb Mi; have z_bu : w.heap.size ≤ bu := Nat.le_trans HW hb; clear HW Kx hb; simp only [Act.put, List.setIfInBounds_toArray, List.set_cons_zero, List.set_cons_succ])
    | (refine wpList_const 24 (.agg (layV S A c R d 1 bh bs bt bu)) rfl rfl (fun _ => by kernel_rfl) ?_; simp only [Act.put, List.setIfInBounds_toArray, List.set_cons_zero, List.set_cons_succ])
    | (refine at_dst 8 rfl ?_; have HW := O.keep.size; refine own_allocK 8 LAYZ O rfl rfl rfl (fun _ => by kernel_rfl) ?_; clear O; intro W y O Kx hb; replace Mh := Mh.keeps Kx (by simp); replace Ms := Ms.keeps Kx (by simp); replace Mt := Mt.keeps Kx (by simp); replace Mu := Mu.keeps Kx (by simp); have z_y : w.heap.size ≤ y := Nat.le_trans HW hb; clear HW Kx hb; simp only [Act.put, List.setIfInBounds_toArray, List.set_cons_zero, List.set_cons_succ])
    | (have O1 := O; refine own_store_rowK 0 (.tmp 8) (.tmp 24) (cs' := layV S A c R d 1 bh bs bt bu) O rfl rfl rfl rfl rfl rfl (by kernel_rfl) rfl (layV_cell _ _ _ _ _ _ _ _ _ _) ?_; clear O; intro W O Kx; simp only [List.set_cons_zero] at O; replace Mh := Mh.keeps Kx (by simpa using (Mh.not_blk (O1.get 0 rfl)).symm); replace Ms := Ms.keeps Kx (by simpa using (Ms.not_blk (O1.get 0 rfl)).symm); replace Mt := Mt.keeps Kx (by simpa using (Mt.not_blk (O1.get 0 rfl)).symm); replace Mu := Mu.keeps Kx (by simpa using (Mu.not_blk (O1.get 0 rfl)).symm); clear Kx O1))
  have L0 : LayAt W S A c R d y bh bs bt bu 0 (stN E 0) := ⟨O.get 0 rfl, Mh, Ms, Mt, Mu, n_bh_bs, n_bh_bt, n_bh_bu, n_bs_bt, n_bs_bu, n_bt_bu⟩
  have K0 := O.keep
  have HZ := Lib.hid (show ∀ b ∈ [y, bh, bs, bt, bu], w.heap.size ≤ b by simp only [List.mem_cons, List.not_mem_nil, or_false]; rintro b (rfl | rfl | rfl | rfl | rfl) <;> assumption)
  clear O Mh Ms Mt Mu z_y z_bh z_bs z_bt z_bu n_bh_bs n_bh_bt n_bh_bu n_bs_bt n_bs_bu n_bt_bu
  go_loopw [27] (fun i wr => ∃ k : Nat, k ≤ n ∧ i = .int .i64 k ∧ Keeps w wr [] ∧ LayAt wr S A c R d y bh bs bt bu k (stN E k) ∧ ∀ j, j < k → okE S (stN E j) (E j) = true) (fun i _ => n - (intOf i).toNat)
  case atStart => exact ⟨0, by omega, rfl, K0, L0, fun j hj => by omega⟩
  case round =>
    obtain ⟨k, hk, rfl, K1, L1, hm⟩ := hrel
    have HM := Lib.hid hm
    have HL := Lib.hid L1
    have HK := Lib.hid K1
    clear hm L1 K1 L0 K0
    by_cases hlt : k < n
    · have g1 : ((k : Int)) < n := by omega
      have g2 : (0 : Int) ≤ k := by omega
      obtain ⟨ad, rfl, hc⟩ := EvsAt.row (u := w) HE.out hlt
      have HC := Lib.hid hc
      clear hc
      have O := Own.start wr []
      have HN := Lib.hid (fun u (ku : Keeps wr u []) => next_any HH.out (E k) (HL.out.kept ku) (HWF.out k hlt) (by omega) (fun j => by have := (stN_le E k).2.2 j; omega) (by have := stN_le E k; omega))
      cases hb : okE S (stN E k) (E k) with
      | false =>
        have HX : ∀ u, Keeps wr u [] → Hid (Calls Try.prog 92 #[.pointer (some ⟨y, 0, none⟩), .agg (evC (E k))] u fun x w' => x = .returned (.bool false) ∧ Keeps u w' [y, bh, bs, bt, bu]) := fun u ku => Lib.hid ((HN.out u ku).mono fun x w' ⟨h1, h2, h3⟩ => ⟨by rw [h1, hb], h2⟩)
        have HT := Lib.hid (firstBad_some HM.out hlt hb)
        clear hb
        go_wp2_with (first
          | go_big_skip
          | (refine wpList_load_at (cs := evC (E k)) 31 rfl rfl rfl rfl (HC.out [] _ (HK.out.trans O.keep (by simp)) (by simp)) Try.underlying37 rfl (by kernel_rfl) ?_; simp only [Act.put, List.setIfInBounds_toArray, List.set_cons_zero, List.set_cons_succ])
          | (refine own_alloc 10 (evC ⟨0, 0, 0, 0, false⟩) O rfl rfl rfl (fun _ => by kernel_rfl) ?_; clear O; intro W a10 O; simp only [Act.put, List.setIfInBounds_toArray, List.set_cons_zero, List.set_cons_succ])
          | (refine own_store_row 0 (.tmp 10) (.tmp 31) O rfl rfl rfl rfl rfl rfl (by kernel_rfl) (by rfl) (evC_cell _) ?_; clear O; intro W O; simp only [List.set_cons_zero] at O)
          | (refine own_load 32 0 O rfl rfl rfl rfl rfl Try.underlying37 rfl (by kernel_rfl) ?_; simp only [Act.put, List.setIfInBounds_toArray, List.set_cons_zero, List.set_cons_succ])
          | (go_at_call 92; refine ((HX _ O.keep).out).mono ?_; rintro e W ⟨rfl, KN⟩; have KW := Lib.hid (HK.out.trans ((O.keep.wide (L' := [y, bh, bs, bt, bu]) (by simp)).trans KN (fun b hb _ => hb)) (fun b hb hlt => absurd hlt (by have := HZ.out b hb; omega))); clear KN))
        go_returns
        exact ⟨by rw [HF.out, HT.out]; rfl, KW.out⟩
      | true =>
        have HX : ∀ u, Keeps wr u [] → Hid (Calls Try.prog 92 #[.pointer (some ⟨y, 0, none⟩), .agg (evC (E k))] u fun x w' => x = .returned (.bool true) ∧ Keeps u w' [y, bh, bs, bt, bu] ∧ LayAt w' S A c R d y bh bs bt bu (k + 1) (stN E (k + 1))) := fun u ku => Lib.hid ((HN.out u ku).mono fun x w' ⟨h1, h2, h3⟩ => ⟨by rw [h1, hb], h2, h3 hb⟩)
        have HM2 := Lib.hid (show ∀ j, j < k + 1 → okE S (stN E j) (E j) = true from fun j hj => if h : j = k then (by rw [h]; exact hb) else HM.out j (by omega))
        clear hb
        go_wp2_with (first
          | go_big_skip
          | (refine wpList_load_at (cs := evC (E k)) 31 rfl rfl rfl rfl (HC.out [] _ (HK.out.trans O.keep (by simp)) (by simp)) Try.underlying37 rfl (by kernel_rfl) ?_; simp only [Act.put, List.setIfInBounds_toArray, List.set_cons_zero, List.set_cons_succ])
          | (refine own_alloc 10 (evC ⟨0, 0, 0, 0, false⟩) O rfl rfl rfl (fun _ => by kernel_rfl) ?_; clear O; intro W a10 O; simp only [Act.put, List.setIfInBounds_toArray, List.set_cons_zero, List.set_cons_succ])
          | (refine own_store_row 0 (.tmp 10) (.tmp 31) O rfl rfl rfl rfl rfl rfl (by kernel_rfl) (by rfl) (evC_cell _) ?_; clear O; intro W O; simp only [List.set_cons_zero] at O)
          | (refine own_load 32 0 O rfl rfl rfl rfl rfl Try.underlying37 rfl (by kernel_rfl) ?_; simp only [Act.put, List.setIfInBounds_toArray, List.set_cons_zero, List.set_cons_succ])
          | (go_at_call 92; refine ((HX _ O.keep).out).mono ?_; rintro e W ⟨rfl, KN, LN⟩; have KW := Lib.hid (HK.out.trans ((O.keep.wide (L' := [y, bh, bs, bt, bu]) (by simp)).trans KN (fun b hb _ => hb)) (fun b hb hlt => absurd hlt (by have := HZ.out b hb; omega))); clear KN))
        go_roundw
        case rel => exact ⟨k + 1, by omega, by go_num, KW.out, LN, HM2.out⟩
        case measure => (simp [intOf] <;> omega)
    · obtain rfl : k = n := by omega
      have HT := Lib.hid (firstBad_none HM.out)
      have cy : wr.cell? ⟨y, 5, none⟩ = some (.int .i64 (stN E k).r) := HL.out.y.cell 5
      go_wp2
      go_returns
      exact ⟨by rw [HF.out, HT.out]; rfl, HK.out⟩
theorem through_any (hS : SysIn w S A c R d) (hE : EvsAt w B n E) (hwf : ∀ i, i < n → (Lit.int .i64 (E i).a).wf = true) : Calls Try.prog 60 #[.agg (sysV S A c R d), .slice B n cb] w fun e w' => e = .returned (thrV (thr S E n)) ∧ Keeps w w' [] := by
  cases h : validB S with
  | false => exact through_sys hS h
  | true =>
    by_cases hn : 40000 < n
    · exact through_long hS h hn
    · exact through_main hS h (by omega) hE hwf
end
end Go.Proofs.Ytakmcpadkanggaa
namespace Go.Proofs.Ytakmcpadkanggaa
open Go.RowKit Go.Maps Go.Deep
def flt (S : Sys) (E : Nat → Ev) (n : Nat) : Int × Int := match firstBad S E n with | some i => ((i : Int), 0) | none => (-1, (stN E n).r)
def fltV (x : Int × Int) : Value := .tuple #[.int .i64 x.1, .int .i64 x.2]
theorem flt_some {S : Sys} {E : Nat → Ev} {n k : Nat} (h : ∀ j, j < k → okE S (stN E j) (E j) = true) (hk : k < n) (hb : okE S (stN E k) (E k) = false) : fltV (flt S E n) = .tuple #[.int .i64 k, .int .i64 0] := by
  rw [flt, firstBad_some h hk hb]; rfl
theorem flt_none {S : Sys} {E : Nat → Ev} {n : Nat} (h : ∀ j, j < n → okE S (stN E j) (E j) = true) : fltV (flt S E n) = .tuple #[.int .i64 (-1), .int .i64 (stN E n).r] := by
  rw [flt, firstBad_none h]; rfl
def LL (S : Sys) (A : Option Addr) (c : Nat) (R : Option Addr) (d lkN gs gt gc gh a2 : Nat) (st : St) : List Ent := [(gh, 4, arrB lkN st.held), (gc, 4, arrB S.nr st.shut), (gt, 3, arrI S.nr st.took), (gs, 3, arrI S.nr st.sent), (a2, 27, sysV S A c R d)]
section
variable {w : World} {S : Sys} {A : Option Addr} {c : Nat} {R : Option Addr} {d n : Nat} {E : Nat → Ev} {B : Option Addr} {cb : Nat}
set_option maxRecDepth 100000 in
set_option maxHeartbeats 3000000 in
theorem fault_any (hh : headB S = true) (_hS : SysIn w S A c R d) (hE : EvsAt w B n E) (hn : n ≤ 40000) : Calls Try.prog 61 #[.agg (sysV S A c R d), .slice B n cb] w fun e w' => e = .returned (fltV (flt S E n)) ∧ Keeps w w' [] := by
  have O := Own.start w []
  obtain ⟨h0, h1, h2, h3, h4, h5⟩ := (headB_iff S).1 hh
  rw [shB_iff] at h3 h4 h5
  obtain ⟨lkN, hlk⟩ : ∃ lkN : Nat, S.lk = (lkN : Int) := ⟨S.lk.toNat, by omega⟩
  have HE := Lib.hid hE
  have HM := Lib.hid (fun u e => meant_any S A c R d u ⟨h3.1, h4.1, h5.1⟩ e)
  have HLK := Lib.hid hlk
  have HB := Lib.hid (⟨h0, h1, h2, h3, h4, h5⟩ : 1 ≤ S.np ∧ S.np ≤ 64 ∧ S.nr ≤ 64 ∧ (0 ≤ S.gr ∧ S.gr ≤ 64) ∧ (0 ≤ S.lk ∧ S.lk ≤ 64) ∧ 0 ≤ S.ce ∧ S.ce ≤ 64)
  have b1 : S.nr ≤ 1000000 := by omega
  have b2 : lkN ≤ 1000000 := by omega
  clear hh _hS hE h0 h1 h2 h3 h4 h5 hlk
  go_enter Try.func61, Try.ntmps61
  go_wp2_with (first
    | go_big_skip
    | (refine own_box 2 (sysV S A c R d) O rfl rfl rfl rfl ?_; clear O; intro W a2 O; simp only [Act.put, List.setIfInBounds_toArray, List.set_cons_zero, List.set_cons_succ]; have c2 : ∀ i, W.cell? ⟨a2, i, none⟩ = #[Value.slice A S.np c, .slice R S.nr d, .int .i64 S.gr, .int .i64 S.lk, .int .i64 S.ce][i]? := (O.get 0 rfl).cell)
    | (refine own_makeI 16 S.nr O rfl rfl rfl rfl (by assumption) ?_; clear O c2; intro W gs O; simp only [Act.put, List.setIfInBounds_toArray, List.set_cons_zero, List.set_cons_succ]; have c2 : ∀ i, W.cell? ⟨a2, i, none⟩ = #[Value.slice A S.np c, .slice R S.nr d, .int .i64 S.gr, .int .i64 S.lk, .int .i64 S.ce][i]? := (O.get 1 rfl).cell)
    | (refine own_makeI 20 S.nr O rfl rfl rfl rfl (by assumption) ?_; clear O c2; intro W gt O; simp only [Act.put, List.setIfInBounds_toArray, List.set_cons_zero, List.set_cons_succ]; have c2 : ∀ i, W.cell? ⟨a2, i, none⟩ = #[Value.slice A S.np c, .slice R S.nr d, .int .i64 S.gr, .int .i64 S.lk, .int .i64 S.ce][i]? := (O.get 2 rfl).cell)
    | (refine own_makeB 24 S.nr O rfl rfl rfl rfl (by assumption) ?_; clear O c2; intro W gc O; simp only [Act.put, List.setIfInBounds_toArray, List.set_cons_zero, List.set_cons_succ]; have c2 : ∀ i, W.cell? ⟨a2, i, none⟩ = #[Value.slice A S.np c, .slice R S.nr d, .int .i64 S.gr, .int .i64 S.lk, .int .i64 S.ce][i]? := (O.get 3 rfl).cell)
    | (refine own_makeB 27 lkN O rfl rfl rfl (by show Value.int .i64 S.lk = _; rw [HLK.out]) (by assumption) ?_; clear O c2; intro W gh O; simp only [Act.put, List.setIfInBounds_toArray, List.set_cons_zero, List.set_cons_succ]; have c2 : ∀ i, W.cell? ⟨a2, i, none⟩ = #[Value.slice A S.np c, .slice R S.nr d, .int .i64 S.gr, .int .i64 S.lk, .int .i64 S.ce][i]? := (O.get 4 rfl).cell))
  clear c2
  go_loopw [11, 6] (fun i x wr => ∃ k : Nat, k ≤ n ∧ i = .int .i64 k ∧ x = .int .i64 (stN E k).r ∧ Own w wr [] (LL S A c R d lkN gs gt gc gh a2 (stN E k)) ∧ ∀ j, j < k → okE S (stN E j) (E j) = true) (fun i _ _ => n - (intOf i).toNat)
  case atStart => exact ⟨0, by omega, rfl, rfl, O, fun j hj => by omega⟩
  case round =>
    obtain ⟨k, hk, rfl, rfl, O, hm⟩ := hrel
    have HMk := Lib.hid hm
    clear hm
    by_cases hlt : k < n
    · have g1 : ((k : Int)) < n := by omega
      have g2 : (0 : Int) ≤ k := by omega
      obtain ⟨ad, rfl, hc⟩ := EvsAt.row (u := w) HE.out hlt
      have HC := Lib.hid hc
      have HST := Lib.hid (stN_le E k)
      have HNX := Lib.hid (show stN E (k + 1) = nextE (stN E k) (E k) from rfl)
      have HBAD := Lib.hid (fun hb => flt_some HMk.out hlt hb)
      have HGOOD := Lib.hid (show okE S (stN E k) (E k) = true → ∀ j, j < k + 1 → okE S (stN E j) (E j) = true from fun hb j hj => if h : j = k then (by rw [h]; exact hb) else HMk.out j (by omega))
      clear hc
      unfold LL at O
      generalize stN E k = st at O HST HNX HBAD HGOOD ⊢
      generalize E k = ev at HC HNX HBAD HGOOD
      obtain ⟨who, op, a, v, sh⟩ := ev
      have HOK := Lib.hid (show okE S st ⟨who, op, a, v, sh⟩ = ((decide (0 ≤ who) && decide (who < st.r)) && meantB S ⟨who, op, a, v, sh⟩ && bodyE st ⟨who, op, a, v, sh⟩) by simp [okE, headE, meantB, Bool.and_assoc])
      cases hin : (decide (0 ≤ who) && decide (who < st.r)) with
      | false =>
        have HI : ∀ u, Hid (Calls Try.prog 65 #[.int .i64 who, .int .i64 st.r] u fun e w' => e = .returned (.bool false) ∧ u = w') := fun u => Lib.hid (by have := inside_any who st.r u; rwa [hin] at this)
        have HF := Lib.hid (HBAD.out (by rw [HOK.out, hin, Bool.false_and, Bool.false_and]))
        clear hin
        go_wp2_with (first
          | go_big_skip
          | (refine wpList_load_at 37 rfl rfl rfl rfl (HC.out [] _ O.keep (by simp)) Try.underlying37 rfl (by kernel_rfl) ?_; simp only [Act.put, List.setIfInBounds_toArray, List.set_cons_zero, List.set_cons_succ])
          | (refine own_alloc 12 (evC ⟨0, 0, 0, 0, false⟩) O rfl rfl rfl (fun _ => by kernel_rfl) ?_; clear O; intro W a12 O; simp only [Act.put, List.setIfInBounds_toArray, List.set_cons_zero, List.set_cons_succ])
          | (refine own_store_row 0 (.tmp 12) (.tmp 37) O rfl rfl rfl rfl rfl rfl (by kernel_rfl) (by rfl) (evC_cell _) ?_; clear O; intro W O; simp only [List.set_cons_zero] at O; have c12 : ∀ i, W.cell? ⟨a12, i, none⟩ = #[Value.int .i64 who, .int .i64 op, .int .i64 a, .int .i64 v, .bool sh][i]? := (O.get 0 rfl).cell)
          | (go_at_call 65; refine ((HI _).out).mono ?_; rintro e W ⟨rfl, rfl⟩))
        go_returns
        exact ⟨by rw [HF.out]; rfl, O.keep⟩
      | true =>
        have HI : ∀ u, Hid (Calls Try.prog 65 #[.int .i64 who, .int .i64 st.r] u fun e w' => e = .returned (.bool true) ∧ u = w') := fun u => Lib.hid (by have := inside_any who st.r u; rwa [hin] at this)
        cases hmn : meantB S ⟨who, op, a, v, sh⟩ with
        | false =>
          have HMe : ∀ u, Hid (Calls Try.prog 93 #[.agg (sysV S A c R d), .agg (evC ⟨who, op, a, v, sh⟩)] u fun e w' => e = .returned (.bool false) ∧ Keeps u w' []) := fun u => Lib.hid (by have := HM.out u ⟨who, op, a, v, sh⟩; rwa [hmn] at this)
          have HF := Lib.hid (HBAD.out (by rw [HOK.out, hmn, Bool.and_false, Bool.false_and]))
          clear hin hmn
          go_wp2_with (first
            | go_big_skip
            | (refine wpList_load_at 37 rfl rfl rfl rfl (HC.out [] _ O.keep (by simp)) Try.underlying37 rfl (by kernel_rfl) ?_; simp only [Act.put, List.setIfInBounds_toArray, List.set_cons_zero, List.set_cons_succ])
            | (refine own_alloc 12 (evC ⟨0, 0, 0, 0, false⟩) O rfl rfl rfl (fun _ => by kernel_rfl) ?_; clear O; intro W a12 O; simp only [Act.put, List.setIfInBounds_toArray, List.set_cons_zero, List.set_cons_succ])
            | (refine own_store_row 0 (.tmp 12) (.tmp 37) O rfl rfl rfl rfl rfl rfl (by kernel_rfl) (by rfl) (evC_cell _) ?_; clear O; intro W O; simp only [List.set_cons_zero] at O; have c12 : ∀ i, W.cell? ⟨a12, i, none⟩ = #[Value.int .i64 who, .int .i64 op, .int .i64 a, .int .i64 v, .bool sh][i]? := (O.get 0 rfl).cell)
            | (go_at_call 65; refine ((HI _).out).mono ?_; rintro e W ⟨rfl, rfl⟩)
            | (refine own_loadG 44 5 O rfl rfl rfl rfl rfl Try.underlying27 rfl (by kernel_rfl) ?_; simp only [Act.put, List.setIfInBounds_toArray, List.set_cons_zero, List.set_cons_succ])
            | (refine own_loadG 45 0 O rfl rfl rfl rfl rfl Try.underlying37 rfl (by kernel_rfl) ?_; simp only [Act.put, List.setIfInBounds_toArray, List.set_cons_zero, List.set_cons_succ])
            | (go_at_call 93; refine ((HMe _).out).mono ?_; rintro e W ⟨rfl, K⟩; replace O := O.keeps K; clear K c12; have c12 : ∀ i, W.cell? ⟨a12, i, none⟩ = #[Value.int .i64 who, .int .i64 op, .int .i64 a, .int .i64 v, .bool sh][i]? := (O.get 0 rfl).cell))
          go_returns
          exact ⟨by rw [HF.out]; rfl, O.keep⟩
        | true =>
          have HMe : ∀ u, Hid (Calls Try.prog 93 #[.agg (sysV S A c R d), .agg (evC ⟨who, op, a, v, sh⟩)] u fun e w' => e = .returned (.bool true) ∧ Keeps u w' []) := fun u => Lib.hid (by have := HM.out u ⟨who, op, a, v, sh⟩; rwa [hmn] at this)
          have HO := Lib.hid (show okE S st ⟨who, op, a, v, sh⟩ = bodyE st ⟨who, op, a, v, sh⟩ by rw [HOK.out, hin, hmn]; rfl)
          have HIN := Lib.hid hmn
          clear hin hmn
          by_cases o14 : op = 14
          · subst o14
            by_cases hv : v = 0
            · subst hv
              have HG := Lib.hid (HGOOD.out (by rw [HO.out]; simp [bodyE]))
              have HN := Lib.hid (show stN E (k + 1) = st by rw [HNX.out]; simp [nextE])
              go_wp2_with (first
                | go_big_skip
                | (refine wpList_load_at 37 rfl rfl rfl rfl (HC.out [] _ O.keep (by simp)) Try.underlying37 rfl (by kernel_rfl) ?_; simp only [Act.put, List.setIfInBounds_toArray, List.set_cons_zero, List.set_cons_succ])
                | (refine own_alloc 12 (evC ⟨0, 0, 0, 0, false⟩) O rfl rfl rfl (fun _ => by kernel_rfl) ?_; clear O; intro W a12 O; simp only [Act.put, List.setIfInBounds_toArray, List.set_cons_zero, List.set_cons_succ])
                | (refine own_store_row 0 (.tmp 12) (.tmp 37) O rfl rfl rfl rfl rfl rfl (by kernel_rfl) (by rfl) (evC_cell _) ?_; clear O; intro W O; simp only [List.set_cons_zero] at O; have c12 : ∀ i, W.cell? ⟨a12, i, none⟩ = #[Value.int .i64 who, .int .i64 14, .int .i64 a, .int .i64 0, .bool sh][i]? := (O.get 0 rfl).cell)
                | (go_at_call 65; refine ((HI _).out).mono ?_; rintro e W ⟨rfl, rfl⟩)
                | (refine own_loadG 44 5 O rfl rfl rfl rfl rfl Try.underlying27 rfl (by kernel_rfl) ?_; simp only [Act.put, List.setIfInBounds_toArray, List.set_cons_zero, List.set_cons_succ])
                | (refine own_loadG 45 0 O rfl rfl rfl rfl rfl Try.underlying37 rfl (by kernel_rfl) ?_; simp only [Act.put, List.setIfInBounds_toArray, List.set_cons_zero, List.set_cons_succ])
                | (go_at_call 93; refine ((HMe _).out).mono ?_; rintro e W ⟨rfl, K⟩; replace O := O.keeps K; clear K c12; have c12 : ∀ i, W.cell? ⟨a12, i, none⟩ = #[Value.int .i64 who, .int .i64 14, .int .i64 a, .int .i64 0, .bool sh][i]? := (O.get 0 rfl).cell))
              clear c12
              go_roundw
              case rel => exact ⟨k + 1, by omega, by go_num, by rw [HN.out], by rw [HN.out]; exact O.drop_ 1, HG.out⟩
              case measure => (simp [intOf] <;> omega)
            · by_cases hv2 : v = st.r
              · subst hv2
                by_cases hv3 : 512 ≤ st.r
                · have HF := Lib.hid (HBAD.out (by rw [HO.out]; simp [bodyE, hv]; omega))
                  go_wp2_with (first
                    | go_big_skip
                    | (refine wpList_load_at 37 rfl rfl rfl rfl (HC.out [] _ O.keep (by simp)) Try.underlying37 rfl (by kernel_rfl) ?_; simp only [Act.put, List.setIfInBounds_toArray, List.set_cons_zero, List.set_cons_succ])
                    | (refine own_alloc 12 (evC ⟨0, 0, 0, 0, false⟩) O rfl rfl rfl (fun _ => by kernel_rfl) ?_; clear O; intro W a12 O; simp only [Act.put, List.setIfInBounds_toArray, List.set_cons_zero, List.set_cons_succ])
                    | (refine own_store_row 0 (.tmp 12) (.tmp 37) O rfl rfl rfl rfl rfl rfl (by kernel_rfl) (by rfl) (evC_cell _) ?_; clear O; intro W O; simp only [List.set_cons_zero] at O; have c12 : ∀ i, W.cell? ⟨a12, i, none⟩ = #[Value.int .i64 who, .int .i64 14, .int .i64 a, .int .i64 st.r, .bool sh][i]? := (O.get 0 rfl).cell)
                    | (go_at_call 65; refine ((HI _).out).mono ?_; rintro e W ⟨rfl, rfl⟩)
                    | (refine own_loadG 44 5 O rfl rfl rfl rfl rfl Try.underlying27 rfl (by kernel_rfl) ?_; simp only [Act.put, List.setIfInBounds_toArray, List.set_cons_zero, List.set_cons_succ])
                    | (refine own_loadG 45 0 O rfl rfl rfl rfl rfl Try.underlying37 rfl (by kernel_rfl) ?_; simp only [Act.put, List.setIfInBounds_toArray, List.set_cons_zero, List.set_cons_succ])
                    | (go_at_call 93; refine ((HMe _).out).mono ?_; rintro e W ⟨rfl, K⟩; replace O := O.keeps K; clear K c12; have c12 : ∀ i, W.cell? ⟨a12, i, none⟩ = #[Value.int .i64 who, .int .i64 14, .int .i64 a, .int .i64 st.r, .bool sh][i]? := (O.get 0 rfl).cell))
                  go_returns
                  exact ⟨by rw [HF.out]; rfl, O.keep⟩
                · have HG := Lib.hid (HGOOD.out (by rw [HO.out]; simp [bodyE, hv]; omega))
                  have HN := Lib.hid (show stN E (k + 1) = { st with r := st.r + 1 } by rw [HNX.out]; simp [nextE, hv])
                  have r1 : IntKind.i64.wrap (st.r + 1) = st.r + 1 := IntWalk.i64_in _ (by have := HST.out; omega)
                  go_wp2_with (first
                    | go_big_skip
                    | (refine wpList_load_at 37 rfl rfl rfl rfl (HC.out [] _ O.keep (by simp)) Try.underlying37 rfl (by kernel_rfl) ?_; simp only [Act.put, List.setIfInBounds_toArray, List.set_cons_zero, List.set_cons_succ])
                    | (refine own_alloc 12 (evC ⟨0, 0, 0, 0, false⟩) O rfl rfl rfl (fun _ => by kernel_rfl) ?_; clear O; intro W a12 O; simp only [Act.put, List.setIfInBounds_toArray, List.set_cons_zero, List.set_cons_succ])
                    | (refine own_store_row 0 (.tmp 12) (.tmp 37) O rfl rfl rfl rfl rfl rfl (by kernel_rfl) (by rfl) (evC_cell _) ?_; clear O; intro W O; simp only [List.set_cons_zero] at O; have c12 : ∀ i, W.cell? ⟨a12, i, none⟩ = #[Value.int .i64 who, .int .i64 14, .int .i64 a, .int .i64 st.r, .bool sh][i]? := (O.get 0 rfl).cell)
                    | (go_at_call 65; refine ((HI _).out).mono ?_; rintro e W ⟨rfl, rfl⟩)
                    | (refine own_loadG 44 5 O rfl rfl rfl rfl rfl Try.underlying27 rfl (by kernel_rfl) ?_; simp only [Act.put, List.setIfInBounds_toArray, List.set_cons_zero, List.set_cons_succ])
                    | (refine own_loadG 45 0 O rfl rfl rfl rfl rfl Try.underlying37 rfl (by kernel_rfl) ?_; simp only [Act.put, List.setIfInBounds_toArray, List.set_cons_zero, List.set_cons_succ])
                    | (go_at_call 93; refine ((HMe _).out).mono ?_; rintro e W ⟨rfl, K⟩; replace O := O.keeps K; clear K c12; have c12 : ∀ i, W.cell? ⟨a12, i, none⟩ = #[Value.int .i64 who, .int .i64 14, .int .i64 a, .int .i64 st.r, .bool sh][i]? := (O.get 0 rfl).cell))
                  clear c12 r1
                  go_roundw
                  case rel => exact ⟨k + 1, by omega, by go_num, by rw [HN.out], by rw [HN.out]; exact O.drop_ 1, HG.out⟩
                  case measure => (simp [intOf] <;> omega)
              · have HF := Lib.hid (HBAD.out (by rw [HO.out]; simp [bodyE, hv, hv2]))
                have z1 : (v != st.r) = true := by simpa using hv2
                go_wp2_with (first
                  | go_big_skip
                  | (refine wpList_load_at 37 rfl rfl rfl rfl (HC.out [] _ O.keep (by simp)) Try.underlying37 rfl (by kernel_rfl) ?_; simp only [Act.put, List.setIfInBounds_toArray, List.set_cons_zero, List.set_cons_succ])
                  | (refine own_alloc 12 (evC ⟨0, 0, 0, 0, false⟩) O rfl rfl rfl (fun _ => by kernel_rfl) ?_; clear O; intro W a12 O; simp only [Act.put, List.setIfInBounds_toArray, List.set_cons_zero, List.set_cons_succ])
                  | (refine own_store_row 0 (.tmp 12) (.tmp 37) O rfl rfl rfl rfl rfl rfl (by kernel_rfl) (by rfl) (evC_cell _) ?_; clear O; intro W O; simp only [List.set_cons_zero] at O; have c12 : ∀ i, W.cell? ⟨a12, i, none⟩ = #[Value.int .i64 who, .int .i64 14, .int .i64 a, .int .i64 v, .bool sh][i]? := (O.get 0 rfl).cell)
                  | (go_at_call 65; refine ((HI _).out).mono ?_; rintro e W ⟨rfl, rfl⟩)
                  | (refine own_loadG 44 5 O rfl rfl rfl rfl rfl Try.underlying27 rfl (by kernel_rfl) ?_; simp only [Act.put, List.setIfInBounds_toArray, List.set_cons_zero, List.set_cons_succ])
                  | (refine own_loadG 45 0 O rfl rfl rfl rfl rfl Try.underlying37 rfl (by kernel_rfl) ?_; simp only [Act.put, List.setIfInBounds_toArray, List.set_cons_zero, List.set_cons_succ])
                  | (go_at_call 93; refine ((HMe _).out).mono ?_; rintro e W ⟨rfl, K⟩; replace O := O.keeps K; clear K c12; have c12 : ∀ i, W.cell? ⟨a12, i, none⟩ = #[Value.int .i64 who, .int .i64 14, .int .i64 a, .int .i64 v, .bool sh][i]? := (O.get 0 rfl).cell))
                go_returns
                exact ⟨by rw [HF.out]; rfl, O.keep⟩
          by_cases o5 : op = 5
          · subst o5
            have HG := Lib.hid (HGOOD.out (by rw [HO.out]; simp [bodyE]))
            have HN := Lib.hid (show stN E (k + 1) = { st with sent := updI st.sent a (st.sent a + 1) } by rw [HNX.out]; simp [nextE])
            have hin := HIN.out
            simp [meantB, cnt] at hin
            have hB := HB.out
            obtain ⟨aN, rfl⟩ : ∃ aN : Nat, a = (aN : Int) := ⟨a.toNat, by omega⟩
            have g3 : ((aN : Nat) : Int) < (S.nr : Int) := by omega
            have g4 : (0 : Int) ≤ aN := by omega
            clear hin hB
            go_wp2_with (first
              | go_big_skip
              | (refine wpList_load_at 37 rfl rfl rfl rfl (HC.out [] _ O.keep (by simp)) Try.underlying37 rfl (by kernel_rfl) ?_; simp only [Act.put, List.setIfInBounds_toArray, List.set_cons_zero, List.set_cons_succ])
              | (refine own_alloc 12 (evC ⟨0, 0, 0, 0, false⟩) O rfl rfl rfl (fun _ => by kernel_rfl) ?_; clear O; intro W a12 O; simp only [Act.put, List.setIfInBounds_toArray, List.set_cons_zero, List.set_cons_succ])
              | (refine own_store_row 0 (.tmp 12) (.tmp 37) O rfl rfl rfl rfl rfl rfl (by kernel_rfl) (by rfl) (evC_cell _) ?_; clear O; intro W O; simp only [List.set_cons_zero] at O; have c12 : ∀ i, W.cell? ⟨a12, i, none⟩ = #[Value.int .i64 who, .int .i64 5, .int .i64 (aN : Int), .int .i64 v, .bool sh][i]? := (O.get 0 rfl).cell)
              | (go_at_call 65; refine ((HI _).out).mono ?_; rintro e W ⟨rfl, rfl⟩)
              | (refine own_loadG 44 5 O rfl rfl rfl rfl rfl Try.underlying27 rfl (by kernel_rfl) ?_; simp only [Act.put, List.setIfInBounds_toArray, List.set_cons_zero, List.set_cons_succ])
              | (refine own_loadG 45 0 O rfl rfl rfl rfl rfl Try.underlying37 rfl (by kernel_rfl) ?_; simp only [Act.put, List.setIfInBounds_toArray, List.set_cons_zero, List.set_cons_succ])
              | (go_at_call 93; refine ((HMe _).out).mono ?_; rintro e W ⟨rfl, K⟩; replace O := O.keeps K; clear K c12; have c12 : ∀ i, W.cell? ⟨a12, i, none⟩ = #[Value.int .i64 who, .int .i64 5, .int .i64 (aN : Int), .int .i64 v, .bool sh][i]? := (O.get 0 rfl).cell))
            clear c12
            have c12 : ∀ (p : Later W) (i : Nat), p.1.cell? ⟨a12, i, none⟩ = #[Value.int .i64 who, .int .i64 5, .int .i64 (aN : Int), .int .i64 v, .bool sh][i]? := Later.cell (O.get 0 rfl)
            have cs : ∀ p : Later W, p.1.cell? ⟨gs, aN, none⟩ = some (.int .i64 (st.sent aN)) := fun p => (Later.cell (O.get 4 rfl) p aN).trans (arrI_get _ _ _ (by omega))
            have ak := add_zero_ gs aN
            have r1 : IntKind.i64.wrap (st.sent aN + 1) = st.sent aN + 1 := IntWalk.i64_in _ (by have := HST.out.2.2 aN; omega)
            refine wp_quiet_tail_later 10 (by kernel_rfl) (by kernel_rfl) ?_
            simp only [List.take, List.drop]
            repeat (first
              | go_big_quiet_skip
              | go_big_quiet_step (fail))
            refine wpQuiet_nil ?_
            intro _ hw
            obtain ⟨p', rfl⟩ := hw
            replace O := O.keeps p'.2
            clear c12 cs ak r1
            generalize p'.1 = W at O ⊢
            go_wp2_with (first
              | (refine own_store 4 aN (.int .i64 (st.sent aN + 1)) (.tmp 83) (.tmp 82) O rfl rfl rfl rfl rfl rfl (by simp only [arrI_size]; omega) rfl rfl (by kernel_rfl) (arrI_set _ _ _ _) ?_; clear O; intro W O; simp only [List.set_cons_zero, List.set_cons_succ] at O))
            go_roundw
            case rel => exact ⟨k + 1, by omega, by go_num, by rw [HN.out], by rw [HN.out]; exact O.drop_ 1, HG.out⟩
            case measure => (simp [intOf] <;> omega)
          by_cases o6 : op = 6
          · subst o6
            cases hsh : sh with
            | true =>
              have hin := HIN.out
              simp [meantB, cnt] at hin
              have hB := HB.out
              obtain ⟨aN, rfl⟩ : ∃ aN : Nat, a = (aN : Int) := ⟨a.toNat, by omega⟩
              have g3 : ((aN : Nat) : Int) < (S.nr : Int) := by omega
              have g4 : (0 : Int) ≤ aN := by omega
              clear hin hB
              subst hsh
              cases hu : st.shut aN with
              | true =>
                have HG := Lib.hid (HGOOD.out (by rw [HO.out]; simp [bodyE, hu]))
                have HN := Lib.hid (show stN E (k + 1) = st by rw [HNX.out]; simp [nextE])
                have ak := add_zero_ gc aN
                go_wp2_with (first
                  | go_big_skip
                  | (refine wpList_load_at 37 rfl rfl rfl rfl (HC.out [] _ O.keep (by simp)) Try.underlying37 rfl (by kernel_rfl) ?_; simp only [Act.put, List.setIfInBounds_toArray, List.set_cons_zero, List.set_cons_succ])
                  | (refine own_alloc 12 (evC ⟨0, 0, 0, 0, false⟩) O rfl rfl rfl (fun _ => by kernel_rfl) ?_; clear O; intro W a12 O; simp only [Act.put, List.setIfInBounds_toArray, List.set_cons_zero, List.set_cons_succ])
                  | (refine own_store_row 0 (.tmp 12) (.tmp 37) O rfl rfl rfl rfl rfl rfl (by kernel_rfl) (by rfl) (evC_cell _) ?_; clear O; intro W O; simp only [List.set_cons_zero] at O; have c12 : ∀ i, W.cell? ⟨a12, i, none⟩ = #[Value.int .i64 who, .int .i64 6, .int .i64 (aN : Int), .int .i64 v, .bool true][i]? := (O.get 0 rfl).cell)
                  | (go_at_call 65; refine ((HI _).out).mono ?_; rintro e W ⟨rfl, rfl⟩)
                  | (refine own_loadG 44 5 O rfl rfl rfl rfl rfl Try.underlying27 rfl (by kernel_rfl) ?_; simp only [Act.put, List.setIfInBounds_toArray, List.set_cons_zero, List.set_cons_succ])
                  | (refine own_loadG 45 0 O rfl rfl rfl rfl rfl Try.underlying37 rfl (by kernel_rfl) ?_; simp only [Act.put, List.setIfInBounds_toArray, List.set_cons_zero, List.set_cons_succ])
                  | (go_at_call 93; refine ((HMe _).out).mono ?_; rintro e W ⟨rfl, K⟩; replace O := O.keeps K; clear K c12; have c12 : ∀ i, W.cell? ⟨a12, i, none⟩ = #[Value.int .i64 who, .int .i64 6, .int .i64 (aN : Int), .int .i64 v, .bool true][i]? := (O.get 0 rfl).cell; have cs : W.cell? ⟨gc, aN, none⟩ = some (.bool (st.shut aN)) := ((O.get 2 rfl).cell aN).trans (arrB_get _ _ _ (by omega)); rw [hu] at cs))
                clear c12 cs ak
                go_roundw
                case rel => exact ⟨k + 1, by omega, by go_num, by rw [HN.out], by rw [HN.out]; exact O.drop_ 1, HG.out⟩
                case measure => (simp [intOf] <;> omega)
              | false =>
                have HF := Lib.hid (HBAD.out (by rw [HO.out]; simp [bodyE, hu]))
                have ak := add_zero_ gc aN
                go_wp2_with (first
                  | go_big_skip
                  | (refine wpList_load_at 37 rfl rfl rfl rfl (HC.out [] _ O.keep (by simp)) Try.underlying37 rfl (by kernel_rfl) ?_; simp only [Act.put, List.setIfInBounds_toArray, List.set_cons_zero, List.set_cons_succ])
                  | (refine own_alloc 12 (evC ⟨0, 0, 0, 0, false⟩) O rfl rfl rfl (fun _ => by kernel_rfl) ?_; clear O; intro W a12 O; simp only [Act.put, List.setIfInBounds_toArray, List.set_cons_zero, List.set_cons_succ])
                  | (refine own_store_row 0 (.tmp 12) (.tmp 37) O rfl rfl rfl rfl rfl rfl (by kernel_rfl) (by rfl) (evC_cell _) ?_; clear O; intro W O; simp only [List.set_cons_zero] at O; have c12 : ∀ i, W.cell? ⟨a12, i, none⟩ = #[Value.int .i64 who, .int .i64 6, .int .i64 (aN : Int), .int .i64 v, .bool true][i]? := (O.get 0 rfl).cell)
                  | (go_at_call 65; refine ((HI _).out).mono ?_; rintro e W ⟨rfl, rfl⟩)
                  | (refine own_loadG 44 5 O rfl rfl rfl rfl rfl Try.underlying27 rfl (by kernel_rfl) ?_; simp only [Act.put, List.setIfInBounds_toArray, List.set_cons_zero, List.set_cons_succ])
                  | (refine own_loadG 45 0 O rfl rfl rfl rfl rfl Try.underlying37 rfl (by kernel_rfl) ?_; simp only [Act.put, List.setIfInBounds_toArray, List.set_cons_zero, List.set_cons_succ])
                  | (go_at_call 93; refine ((HMe _).out).mono ?_; rintro e W ⟨rfl, K⟩; replace O := O.keeps K; clear K c12; have c12 : ∀ i, W.cell? ⟨a12, i, none⟩ = #[Value.int .i64 who, .int .i64 6, .int .i64 (aN : Int), .int .i64 v, .bool true][i]? := (O.get 0 rfl).cell; have cs : W.cell? ⟨gc, aN, none⟩ = some (.bool (st.shut aN)) := ((O.get 2 rfl).cell aN).trans (arrB_get _ _ _ (by omega)); rw [hu] at cs))
                go_returns
                exact ⟨by rw [HF.out]; rfl, O.keep⟩
            | false =>
              have hin := HIN.out
              simp [meantB, cnt] at hin
              have hB := HB.out
              obtain ⟨aN, rfl⟩ : ∃ aN : Nat, a = (aN : Int) := ⟨a.toNat, by omega⟩
              have g3 : ((aN : Nat) : Int) < (S.nr : Int) := by omega
              have g4 : (0 : Int) ≤ aN := by omega
              clear hin hB
              subst hsh
              by_cases hu : st.sent aN ≤ st.took aN
              · have HF := Lib.hid (HBAD.out (by rw [HO.out]; simp [bodyE]; omega))
                go_wp2_with (first
                  | go_big_skip
                  | (refine wpList_load_at 37 rfl rfl rfl rfl (HC.out [] _ O.keep (by simp)) Try.underlying37 rfl (by kernel_rfl) ?_; simp only [Act.put, List.setIfInBounds_toArray, List.set_cons_zero, List.set_cons_succ])
                  | (refine own_alloc 12 (evC ⟨0, 0, 0, 0, false⟩) O rfl rfl rfl (fun _ => by kernel_rfl) ?_; clear O; intro W a12 O; simp only [Act.put, List.setIfInBounds_toArray, List.set_cons_zero, List.set_cons_succ])
                  | (refine own_store_row 0 (.tmp 12) (.tmp 37) O rfl rfl rfl rfl rfl rfl (by kernel_rfl) (by rfl) (evC_cell _) ?_; clear O; intro W O; simp only [List.set_cons_zero] at O; have c12 : ∀ i, W.cell? ⟨a12, i, none⟩ = #[Value.int .i64 who, .int .i64 6, .int .i64 (aN : Int), .int .i64 v, .bool false][i]? := (O.get 0 rfl).cell)
                  | (go_at_call 65; refine ((HI _).out).mono ?_; rintro e W ⟨rfl, rfl⟩)
                  | (refine own_loadG 44 5 O rfl rfl rfl rfl rfl Try.underlying27 rfl (by kernel_rfl) ?_; simp only [Act.put, List.setIfInBounds_toArray, List.set_cons_zero, List.set_cons_succ])
                  | (refine own_loadG 45 0 O rfl rfl rfl rfl rfl Try.underlying37 rfl (by kernel_rfl) ?_; simp only [Act.put, List.setIfInBounds_toArray, List.set_cons_zero, List.set_cons_succ])
                  | (go_at_call 93; refine ((HMe _).out).mono ?_; rintro e W ⟨rfl, K⟩; replace O := O.keeps K; clear K c12; have c12 : ∀ i, W.cell? ⟨a12, i, none⟩ = #[Value.int .i64 who, .int .i64 6, .int .i64 (aN : Int), .int .i64 v, .bool false][i]? := (O.get 0 rfl).cell))
                clear c12
                have c12 : ∀ (p : Later W) (i : Nat), p.1.cell? ⟨a12, i, none⟩ = #[Value.int .i64 who, .int .i64 6, .int .i64 (aN : Int), .int .i64 v, .bool false][i]? := Later.cell (O.get 0 rfl)
                have ak := add_zero_ gs aN
                have ak' := add_zero_ gt aN
                have cs : ∀ p : Later W, p.1.cell? ⟨gs, aN, none⟩ = some (.int .i64 (st.sent aN)) := fun p => (Later.cell (O.get 4 rfl) p aN).trans (arrI_get _ _ _ (by omega))
                have ct : ∀ p : Later W, p.1.cell? ⟨gt, aN, none⟩ = some (.int .i64 (st.took aN)) := fun p => (Later.cell (O.get 3 rfl) p aN).trans (arrI_get _ _ _ (by omega))
                refine wp_quiet_later (by kernel_rfl) (by kernel_rfl) ?_
                repeat (first
                  | go_big_quiet_skip
                  | go_big_quiet_step (fail))
                refine wpQuiet_nil ?_
                intro _ hw
                obtain ⟨p', rfl⟩ := hw
                replace O := O.keeps p'.2
                clear c12 cs ct ak ak'
                generalize p'.1 = W at O ⊢
                go_wp2_with (first | go_big_skip)
                go_returns
                exact ⟨by rw [HF.out]; rfl, O.keep⟩
              · have HG := Lib.hid (HGOOD.out (by rw [HO.out]; simp [bodyE]; omega))
                have HN := Lib.hid (show stN E (k + 1) = { st with took := updI st.took aN (st.took aN + 1) } by rw [HNX.out]; simp [nextE])
                go_wp2_with (first
                  | go_big_skip
                  | (refine wpList_load_at 37 rfl rfl rfl rfl (HC.out [] _ O.keep (by simp)) Try.underlying37 rfl (by kernel_rfl) ?_; simp only [Act.put, List.setIfInBounds_toArray, List.set_cons_zero, List.set_cons_succ])
                  | (refine own_alloc 12 (evC ⟨0, 0, 0, 0, false⟩) O rfl rfl rfl (fun _ => by kernel_rfl) ?_; clear O; intro W a12 O; simp only [Act.put, List.setIfInBounds_toArray, List.set_cons_zero, List.set_cons_succ])
                  | (refine own_store_row 0 (.tmp 12) (.tmp 37) O rfl rfl rfl rfl rfl rfl (by kernel_rfl) (by rfl) (evC_cell _) ?_; clear O; intro W O; simp only [List.set_cons_zero] at O; have c12 : ∀ i, W.cell? ⟨a12, i, none⟩ = #[Value.int .i64 who, .int .i64 6, .int .i64 (aN : Int), .int .i64 v, .bool false][i]? := (O.get 0 rfl).cell)
                  | (go_at_call 65; refine ((HI _).out).mono ?_; rintro e W ⟨rfl, rfl⟩)
                  | (refine own_loadG 44 5 O rfl rfl rfl rfl rfl Try.underlying27 rfl (by kernel_rfl) ?_; simp only [Act.put, List.setIfInBounds_toArray, List.set_cons_zero, List.set_cons_succ])
                  | (refine own_loadG 45 0 O rfl rfl rfl rfl rfl Try.underlying37 rfl (by kernel_rfl) ?_; simp only [Act.put, List.setIfInBounds_toArray, List.set_cons_zero, List.set_cons_succ])
                  | (go_at_call 93; refine ((HMe _).out).mono ?_; rintro e W ⟨rfl, K⟩; replace O := O.keeps K; clear K c12; have c12 : ∀ i, W.cell? ⟨a12, i, none⟩ = #[Value.int .i64 who, .int .i64 6, .int .i64 (aN : Int), .int .i64 v, .bool false][i]? := (O.get 0 rfl).cell))
                clear c12
                have c12 : ∀ (p : Later W) (i : Nat), p.1.cell? ⟨a12, i, none⟩ = #[Value.int .i64 who, .int .i64 6, .int .i64 (aN : Int), .int .i64 v, .bool false][i]? := Later.cell (O.get 0 rfl)
                have ak := add_zero_ gs aN
                have ak' := add_zero_ gt aN
                have cs : ∀ p : Later W, p.1.cell? ⟨gs, aN, none⟩ = some (.int .i64 (st.sent aN)) := fun p => (Later.cell (O.get 4 rfl) p aN).trans (arrI_get _ _ _ (by omega))
                have ct : ∀ p : Later W, p.1.cell? ⟨gt, aN, none⟩ = some (.int .i64 (st.took aN)) := fun p => (Later.cell (O.get 3 rfl) p aN).trans (arrI_get _ _ _ (by omega))
                refine wp_quiet_later (by kernel_rfl) (by kernel_rfl) ?_
                repeat (first
                  | go_big_quiet_skip
                  | go_big_quiet_step (fail))
                refine wpQuiet_nil ?_
                intro _ hw
                obtain ⟨p', rfl⟩ := hw
                replace O := O.keeps p'.2
                clear c12 cs ct ak ak'
                generalize p'.1 = W at O ⊢
                go_wp2_with (first | go_big_skip)
                have c12 : ∀ (p : Later W) (i : Nat), p.1.cell? ⟨a12, i, none⟩ = #[Value.int .i64 who, .int .i64 6, .int .i64 (aN : Int), .int .i64 v, .bool false][i]? := Later.cell (O.get 0 rfl)
                have cs : ∀ p : Later W, p.1.cell? ⟨gt, aN, none⟩ = some (.int .i64 (st.took aN)) := fun p => (Later.cell (O.get 3 rfl) p aN).trans (arrI_get _ _ _ (by omega))
                have ak := add_zero_ gt aN
                have r1 : IntKind.i64.wrap (st.took aN + 1) = st.took aN + 1 := IntWalk.i64_in _ (by have := HST.out.2.2 aN; omega)
                refine wp_quiet_tail_later 10 (by kernel_rfl) (by kernel_rfl) ?_
                simp only [List.take, List.drop]
                repeat (first
                  | go_big_quiet_skip
                  | go_big_quiet_step (fail))
                refine wpQuiet_nil ?_
                intro _ hw
                obtain ⟨p', rfl⟩ := hw
                replace O := O.keeps p'.2
                clear c12 cs ak r1
                generalize p'.1 = W at O ⊢
                go_wp2_with (first
                  | (refine own_store 3 aN (.int .i64 (st.took aN + 1)) (.tmp 124) (.tmp 123) O rfl rfl rfl rfl rfl rfl (by simp only [arrI_size]; omega) rfl rfl (by kernel_rfl) (arrI_set _ _ _ _) ?_; clear O; intro W O; simp only [List.set_cons_zero, List.set_cons_succ] at O))
                go_roundw
                case rel => exact ⟨k + 1, by omega, by go_num, by rw [HN.out], by rw [HN.out]; exact O.drop_ 1, HG.out⟩
                case measure => (simp [intOf] <;> omega)
          by_cases o7 : op = 7
          · subst o7
            have HG := Lib.hid (HGOOD.out (by rw [HO.out]; simp [bodyE]))
            have HN := Lib.hid (show stN E (k + 1) = { st with shut := updI st.shut a true } by rw [HNX.out]; simp [nextE])
            have hin := HIN.out
            simp [meantB, cnt] at hin
            have hB := HB.out
            obtain ⟨aN, rfl⟩ : ∃ aN : Nat, a = (aN : Int) := ⟨a.toNat, by omega⟩
            have g3 : ((aN : Nat) : Int) < (S.nr : Int) := by omega
            have g4 : (0 : Int) ≤ aN := by omega
            clear hin hB
            have ak := add_zero_ gc aN
            go_wp2_with (first
              | go_big_skip
              | (refine wpList_load_at 37 rfl rfl rfl rfl (HC.out [] _ O.keep (by simp)) Try.underlying37 rfl (by kernel_rfl) ?_; simp only [Act.put, List.setIfInBounds_toArray, List.set_cons_zero, List.set_cons_succ])
              | (refine own_alloc 12 (evC ⟨0, 0, 0, 0, false⟩) O rfl rfl rfl (fun _ => by kernel_rfl) ?_; clear O; intro W a12 O; simp only [Act.put, List.setIfInBounds_toArray, List.set_cons_zero, List.set_cons_succ])
              | (refine own_store_row 0 (.tmp 12) (.tmp 37) O rfl rfl rfl rfl rfl rfl (by kernel_rfl) (by rfl) (evC_cell _) ?_; clear O; intro W O; simp only [List.set_cons_zero] at O; have c12 : ∀ i, W.cell? ⟨a12, i, none⟩ = #[Value.int .i64 who, .int .i64 7, .int .i64 (aN : Int), .int .i64 v, .bool sh][i]? := (O.get 0 rfl).cell)
              | (go_at_call 65; refine ((HI _).out).mono ?_; rintro e W ⟨rfl, rfl⟩)
              | (refine own_loadG 44 5 O rfl rfl rfl rfl rfl Try.underlying27 rfl (by kernel_rfl) ?_; simp only [Act.put, List.setIfInBounds_toArray, List.set_cons_zero, List.set_cons_succ])
              | (refine own_loadG 45 0 O rfl rfl rfl rfl rfl Try.underlying37 rfl (by kernel_rfl) ?_; simp only [Act.put, List.setIfInBounds_toArray, List.set_cons_zero, List.set_cons_succ])
              | (go_at_call 93; refine ((HMe _).out).mono ?_; rintro e W ⟨rfl, K⟩; replace O := O.keeps K; clear K c12; have c12 : ∀ i, W.cell? ⟨a12, i, none⟩ = #[Value.int .i64 who, .int .i64 7, .int .i64 (aN : Int), .int .i64 v, .bool sh][i]? := (O.get 0 rfl).cell)
              | (refine own_store 2 aN (.bool true) (.tmp 132) (.const (.bool true)) O rfl rfl rfl rfl rfl rfl (by simp only [arrB_size]; omega) rfl rfl (by kernel_rfl) (arrB_set _ _ _ _) ?_; clear O; intro W O; simp only [List.set_cons_zero, List.set_cons_succ] at O))
            clear c12 ak
            go_roundw
            case rel => exact ⟨k + 1, by omega, by go_num, by rw [HN.out], by rw [HN.out]; exact O.drop_ 1, HG.out⟩
            case measure => (simp [intOf] <;> omega)
          by_cases o8 : op = 8
          · subst o8
            have hin := HIN.out
            simp [meantB, cnt] at hin
            have hB := HB.out
            obtain ⟨aN, rfl⟩ : ∃ aN : Nat, a = (aN : Int) := ⟨a.toNat, by omega⟩
            have g3 : ((aN : Nat) : Int) < (lkN : Int) := by rw [HLK.out] at hin; omega
            have g4 : (0 : Int) ≤ aN := by omega
            clear hin hB
            cases hu : st.held aN with
            | true =>
              have HF := Lib.hid (HBAD.out (by rw [HO.out]; simp [bodyE, hu]))
              have ak := add_zero_ gh aN
              go_wp2_with (first
                | go_big_skip
                | (refine wpList_load_at 37 rfl rfl rfl rfl (HC.out [] _ O.keep (by simp)) Try.underlying37 rfl (by kernel_rfl) ?_; simp only [Act.put, List.setIfInBounds_toArray, List.set_cons_zero, List.set_cons_succ])
                | (refine own_alloc 12 (evC ⟨0, 0, 0, 0, false⟩) O rfl rfl rfl (fun _ => by kernel_rfl) ?_; clear O; intro W a12 O; simp only [Act.put, List.setIfInBounds_toArray, List.set_cons_zero, List.set_cons_succ])
                | (refine own_store_row 0 (.tmp 12) (.tmp 37) O rfl rfl rfl rfl rfl rfl (by kernel_rfl) (by rfl) (evC_cell _) ?_; clear O; intro W O; simp only [List.set_cons_zero] at O; have c12 : ∀ i, W.cell? ⟨a12, i, none⟩ = #[Value.int .i64 who, .int .i64 8, .int .i64 (aN : Int), .int .i64 v, .bool sh][i]? := (O.get 0 rfl).cell)
                | (go_at_call 65; refine ((HI _).out).mono ?_; rintro e W ⟨rfl, rfl⟩)
                | (refine own_loadG 44 5 O rfl rfl rfl rfl rfl Try.underlying27 rfl (by kernel_rfl) ?_; simp only [Act.put, List.setIfInBounds_toArray, List.set_cons_zero, List.set_cons_succ])
                | (refine own_loadG 45 0 O rfl rfl rfl rfl rfl Try.underlying37 rfl (by kernel_rfl) ?_; simp only [Act.put, List.setIfInBounds_toArray, List.set_cons_zero, List.set_cons_succ])
                | (go_at_call 93; refine ((HMe _).out).mono ?_; rintro e W ⟨rfl, K⟩; replace O := O.keeps K; clear K c12; have c12 : ∀ i, W.cell? ⟨a12, i, none⟩ = #[Value.int .i64 who, .int .i64 8, .int .i64 (aN : Int), .int .i64 v, .bool sh][i]? := (O.get 0 rfl).cell; have cs : W.cell? ⟨gh, aN, none⟩ = some (.bool (st.held aN)) := ((O.get 1 rfl).cell aN).trans (arrB_get _ _ _ (by omega)); rw [hu] at cs))
              go_returns
              exact ⟨by rw [HF.out]; rfl, O.keep⟩
            | false =>
              have HG := Lib.hid (HGOOD.out (by rw [HO.out]; simp [bodyE, hu]))
              have HN := Lib.hid (show stN E (k + 1) = { st with held := updI st.held aN true } by rw [HNX.out]; simp [nextE])
              have ak := add_zero_ gh aN
              go_wp2_with (first
                | go_big_skip
                | (refine wpList_load_at 37 rfl rfl rfl rfl (HC.out [] _ O.keep (by simp)) Try.underlying37 rfl (by kernel_rfl) ?_; simp only [Act.put, List.setIfInBounds_toArray, List.set_cons_zero, List.set_cons_succ])
                | (refine own_alloc 12 (evC ⟨0, 0, 0, 0, false⟩) O rfl rfl rfl (fun _ => by kernel_rfl) ?_; clear O; intro W a12 O; simp only [Act.put, List.setIfInBounds_toArray, List.set_cons_zero, List.set_cons_succ])
                | (refine own_store_row 0 (.tmp 12) (.tmp 37) O rfl rfl rfl rfl rfl rfl (by kernel_rfl) (by rfl) (evC_cell _) ?_; clear O; intro W O; simp only [List.set_cons_zero] at O; have c12 : ∀ i, W.cell? ⟨a12, i, none⟩ = #[Value.int .i64 who, .int .i64 8, .int .i64 (aN : Int), .int .i64 v, .bool sh][i]? := (O.get 0 rfl).cell)
                | (go_at_call 65; refine ((HI _).out).mono ?_; rintro e W ⟨rfl, rfl⟩)
                | (refine own_loadG 44 5 O rfl rfl rfl rfl rfl Try.underlying27 rfl (by kernel_rfl) ?_; simp only [Act.put, List.setIfInBounds_toArray, List.set_cons_zero, List.set_cons_succ])
                | (refine own_loadG 45 0 O rfl rfl rfl rfl rfl Try.underlying37 rfl (by kernel_rfl) ?_; simp only [Act.put, List.setIfInBounds_toArray, List.set_cons_zero, List.set_cons_succ])
                | (go_at_call 93; refine ((HMe _).out).mono ?_; rintro e W ⟨rfl, K⟩; replace O := O.keeps K; clear K c12; have c12 : ∀ i, W.cell? ⟨a12, i, none⟩ = #[Value.int .i64 who, .int .i64 8, .int .i64 (aN : Int), .int .i64 v, .bool sh][i]? := (O.get 0 rfl).cell; have cs : W.cell? ⟨gh, aN, none⟩ = some (.bool (st.held aN)) := ((O.get 1 rfl).cell aN).trans (arrB_get _ _ _ (by omega)); rw [hu] at cs)
                | (refine own_store 1 aN (.bool true) (.tmp 146) (.const (.bool true)) O rfl rfl rfl rfl rfl rfl (by simp only [arrB_size]; omega) rfl rfl (by kernel_rfl) (arrB_set _ _ _ _) ?_; clear O; intro W O; simp only [List.set_cons_zero, List.set_cons_succ] at O))
              clear c12 ak
              go_roundw
              case rel => exact ⟨k + 1, by omega, by go_num, by rw [HN.out], by rw [HN.out]; exact O.drop_ 1, HG.out⟩
              case measure => (simp [intOf] <;> omega)
          by_cases o9 : op = 9
          · subst o9
            have HG := Lib.hid (HGOOD.out (by rw [HO.out]; simp [bodyE]))
            have HN := Lib.hid (show stN E (k + 1) = { st with held := updI st.held a false } by rw [HNX.out]; simp [nextE])
            have hin := HIN.out
            simp [meantB, cnt] at hin
            have hB := HB.out
            obtain ⟨aN, rfl⟩ : ∃ aN : Nat, a = (aN : Int) := ⟨a.toNat, by omega⟩
            have g3 : ((aN : Nat) : Int) < (lkN : Int) := by rw [HLK.out] at hin; omega
            have g4 : (0 : Int) ≤ aN := by omega
            clear hin hB
            have ak := add_zero_ gh aN
            go_wp2_with (first
              | go_big_skip
              | (refine wpList_load_at 37 rfl rfl rfl rfl (HC.out [] _ O.keep (by simp)) Try.underlying37 rfl (by kernel_rfl) ?_; simp only [Act.put, List.setIfInBounds_toArray, List.set_cons_zero, List.set_cons_succ])
              | (refine own_alloc 12 (evC ⟨0, 0, 0, 0, false⟩) O rfl rfl rfl (fun _ => by kernel_rfl) ?_; clear O; intro W a12 O; simp only [Act.put, List.setIfInBounds_toArray, List.set_cons_zero, List.set_cons_succ])
              | (refine own_store_row 0 (.tmp 12) (.tmp 37) O rfl rfl rfl rfl rfl rfl (by kernel_rfl) (by rfl) (evC_cell _) ?_; clear O; intro W O; simp only [List.set_cons_zero] at O; have c12 : ∀ i, W.cell? ⟨a12, i, none⟩ = #[Value.int .i64 who, .int .i64 9, .int .i64 (aN : Int), .int .i64 v, .bool sh][i]? := (O.get 0 rfl).cell)
              | (go_at_call 65; refine ((HI _).out).mono ?_; rintro e W ⟨rfl, rfl⟩)
              | (refine own_loadG 44 5 O rfl rfl rfl rfl rfl Try.underlying27 rfl (by kernel_rfl) ?_; simp only [Act.put, List.setIfInBounds_toArray, List.set_cons_zero, List.set_cons_succ])
              | (refine own_loadG 45 0 O rfl rfl rfl rfl rfl Try.underlying37 rfl (by kernel_rfl) ?_; simp only [Act.put, List.setIfInBounds_toArray, List.set_cons_zero, List.set_cons_succ])
              | (go_at_call 93; refine ((HMe _).out).mono ?_; rintro e W ⟨rfl, K⟩; replace O := O.keeps K; clear K c12; have c12 : ∀ i, W.cell? ⟨a12, i, none⟩ = #[Value.int .i64 who, .int .i64 9, .int .i64 (aN : Int), .int .i64 v, .bool sh][i]? := (O.get 0 rfl).cell)
              | (refine own_store 1 aN (.bool false) (.tmp 154) (.const (.bool false)) O rfl rfl rfl rfl rfl rfl (by simp only [arrB_size]; omega) rfl rfl (by kernel_rfl) (arrB_set _ _ _ _) ?_; clear O; intro W O; simp only [List.set_cons_zero, List.set_cons_succ] at O))
            clear c12 ak
            go_roundw
            case rel => exact ⟨k + 1, by omega, by go_num, by rw [HN.out], by rw [HN.out]; exact O.drop_ 1, HG.out⟩
            case measure => (simp [intOf] <;> omega)
          have HG := Lib.hid (HGOOD.out (by rw [HO.out]; simp [bodyE, o14, o6, o8]))
          have HN := Lib.hid (show stN E (k + 1) = st by rw [HNX.out]; simp [nextE, o14, o5, o6, o7, o8, o9])
          go_wp2_with (first
            | go_big_skip
            | (refine wpList_load_at 37 rfl rfl rfl rfl (HC.out [] _ O.keep (by simp)) Try.underlying37 rfl (by kernel_rfl) ?_; simp only [Act.put, List.setIfInBounds_toArray, List.set_cons_zero, List.set_cons_succ])
            | (refine own_alloc 12 (evC ⟨0, 0, 0, 0, false⟩) O rfl rfl rfl (fun _ => by kernel_rfl) ?_; clear O; intro W a12 O; simp only [Act.put, List.setIfInBounds_toArray, List.set_cons_zero, List.set_cons_succ])
            | (refine own_store_row 0 (.tmp 12) (.tmp 37) O rfl rfl rfl rfl rfl rfl (by kernel_rfl) (by rfl) (evC_cell _) ?_; clear O; intro W O; simp only [List.set_cons_zero] at O; have c12 : ∀ i, W.cell? ⟨a12, i, none⟩ = #[Value.int .i64 who, .int .i64 op, .int .i64 a, .int .i64 v, .bool sh][i]? := (O.get 0 rfl).cell)
            | (go_at_call 65; refine ((HI _).out).mono ?_; rintro e W ⟨rfl, rfl⟩)
            | (refine own_loadG 44 5 O rfl rfl rfl rfl rfl Try.underlying27 rfl (by kernel_rfl) ?_; simp only [Act.put, List.setIfInBounds_toArray, List.set_cons_zero, List.set_cons_succ])
            | (refine own_loadG 45 0 O rfl rfl rfl rfl rfl Try.underlying37 rfl (by kernel_rfl) ?_; simp only [Act.put, List.setIfInBounds_toArray, List.set_cons_zero, List.set_cons_succ])
            | (go_at_call 93; refine ((HMe _).out).mono ?_; rintro e W ⟨rfl, K⟩; replace O := O.keeps K; clear K c12; have c12 : ∀ i, W.cell? ⟨a12, i, none⟩ = #[Value.int .i64 who, .int .i64 op, .int .i64 a, .int .i64 v, .bool sh][i]? := (O.get 0 rfl).cell))
          clear c12
          go_roundw
          case rel => exact ⟨k + 1, by omega, by go_num, by rw [HN.out], by rw [HN.out]; exact O.drop_ 1, HG.out⟩
          case measure => (simp [intOf] <;> omega)
    · obtain rfl : k = n := by omega
      have HT := Lib.hid (flt_none HMk.out)
      go_wp2
      go_returns
      exact ⟨by rw [HT.out]; rfl, O.keep⟩
end
end Go.Proofs.Ytakmcpadkanggaa
namespace Go.Proofs.Ytakmcpadkanggaa
open Go.ChangeShapes Go.WideShapes Go.ChangeAt Go.RowKit Go.Maps Go.Deep
section
variable {w : World} {S : Sys} {A : Option Addr} {c : Nat} {R : Option Addr} {d n : Nat} {E : Nat → Ev} {B B' : Option Addr} {cb cb' : Nat}
set_option maxRecDepth 100000 in
theorem kept_any (hn : n ≤ 140737488351232) (hE : EvsAt w B n E) (hE' : EvsAt w B' n E) : Calls Try.prog 31 #[.slice B n cb, .slice B' n cb'] w fun e w' => e = .returned (.bool true) ∧ Keeps w w' [] := by
  have HE := Lib.hid hE
  have HE' := Lib.hid hE'
  have HS := Lib.hid ev_self
  clear hE hE'
  go_enter Try.func31, Try.ntmps31
  go_wp2
  go_loopw [5] (fun i wr => ∃ k : Nat, k ≤ n ∧ i = .int .i64 k ∧ Keeps w wr []) (fun i _ => n - (intOf i).toNat)
  case atStart => exact ⟨0, by omega, rfl, Keeps.refl _ _⟩
  case round =>
    obtain ⟨k, hk, rfl, K⟩ := hrel
    by_cases hlt : k < n
    · have g1 : ((k : Int)) < n := by omega
      have g0 : (0 : Int) ≤ k := by omega
      obtain ⟨ad, rfl, hc⟩ := EvsAt.row (u := w) HE.out hlt
      obtain ⟨ad', rfl, hc'⟩ := EvsAt.row (u := w) HE'.out hlt
      have HC := Lib.hid hc
      have HC' := Lib.hid hc'
      clear hc hc'
      have hs := HS.out (E k)
      generalize E k = e at HC HC' hs
      go_wp2
      refine wp_quiet_later (by kernel_rfl) (by kernel_rfl) ?_
      repeat (first
        | go_big_quiet_skip
        | (refine wpQuiet_load_at (cs := evC e) 20 rfl rfl rfl rfl (fun u hu => HC.out [] u (by obtain ⟨p', rfl⟩ := hu; exact K.trans p'.2 (by simp)) (by simp)) Try.underlying37 rfl (by kernel_rfl) ?_; simp only [Act.put, List.setIfInBounds_toArray, List.set_cons_zero, List.set_cons_succ])
        | (refine wpQuiet_load_at (cs := evC e) 24 rfl rfl rfl rfl (fun u hu => HC'.out [] u (by obtain ⟨p', rfl⟩ := hu; exact K.trans p'.2 (by simp)) (by simp)) Try.underlying37 rfl (by kernel_rfl) ?_; simp only [Act.put, List.setIfInBounds_toArray, List.set_cons_zero, List.set_cons_succ])
        | go_big_quiet_step (fail))
      refine wpQuiet_nil ?_
      intro _ hw
      obtain ⟨p', rfl⟩ := hw
      replace K := K.trans p'.2 (by simp)
      clear hs
      generalize p'.1 = W at K ⊢
      go_wp2
      go_roundw
      case rel => exact ⟨k + 1, by omega, by go_num, K⟩
      case measure => (simp [intOf] <;> omega)
    · obtain rfl : k = n := by omega
      go_wp2
      go_ret
      exact ⟨rfl, K⟩
set_option maxRecDepth 100000 in
theorem tvalid_any (hS : SysIn w S A c R d) (hE : EvsAt w B n E) (hwf : ∀ i, i < n → (Lit.int .i64 (E i).a).wf = true) : Calls Try.prog 28 #[.agg (sysV S A c R d), .slice B n cb] w fun e w' => e = .returned (.tuple #[.int .i64 (thr S E n).2.1, .int .i64 (thr S E n).2.2]) ∧ Keeps w w' [] := by
  have O := Own.start w []
  have HT : ∀ u, Keeps w u [] → Hid (Calls Try.prog 60 #[.agg (sysV S A c R d), .slice B n cb] u fun e w' => e = .returned (.tuple #[.int .i64 (thr S E n).1, .int .i64 (thr S E n).2.1, .int .i64 (thr S E n).2.2]) ∧ Keeps u w' []) := fun u k => Lib.hid (through_any (hS.kept k) (hE.kept k) hwf)
  clear hS hE hwf
  generalize thr S E n = x at *
  obtain ⟨x0, x1, x2⟩ := x
  go_enter Try.func28, Try.ntmps28
  go_wp2_with (first
    | go_big_skip
    | (refine own_box 2 (sysV S A c R d) O rfl rfl rfl rfl ?_; clear O; intro W a2 O; simp only [Act.put, List.setIfInBounds_toArray, List.set_cons_zero, List.set_cons_succ])
    | (refine own_load 10 0 O rfl rfl rfl rfl rfl Try.underlying27 rfl (by kernel_rfl) ?_; simp only [Act.put, List.setIfInBounds_toArray, List.set_cons_zero, List.set_cons_succ])
    | (go_at_call 60; refine ((HT _ O.keep).out).mono ?_; rintro e W ⟨rfl, K⟩; replace O := O.keeps K; clear K))
  go_returns
  exact ⟨rfl, O.keep⟩
set_option maxRecDepth 100000 in
theorem rv_sys (hS : SysIn w S A c R d) (_hE : EvsAt w B n E) (h : validB S = false) : Calls Try.prog 29 #[.agg (sysV S A c R d), .slice B n cb] w fun e w' => e = .returned (.tuple #[.int .i64 (thr S E n).2.1, .int .i64 (thr S E n).1, .int .i64 (thr S E n).2.2]) ∧ Keeps w w' [] := by
  have O := Own.start w []
  have HV : ∀ u, Keeps w u [] → Hid (Calls Try.prog 23 #[.agg (sysV S A c R d)] u fun e w' => e = .returned (.bool false) ∧ Keeps u w' []) := fun u k => Lib.hid (by have := refvalid_any (hS.kept k); rwa [h] at this)
  have HF := Lib.hid (show thr S E n = (0, 0, 130) by simp [thr, h])
  clear h
  clear hS _hE
  go_enter Try.func29, Try.ntmps29
  go_wp2_with (first
    | go_big_skip
    | (refine own_box 2 (sysV S A c R d) O rfl rfl rfl rfl ?_; clear O; intro W a2 O; simp only [Act.put, List.setIfInBounds_toArray, List.set_cons_zero, List.set_cons_succ])
    | (refine own_load 9 0 O rfl rfl rfl rfl rfl Try.underlying27 rfl (by kernel_rfl) ?_; simp only [Act.put, List.setIfInBounds_toArray, List.set_cons_zero, List.set_cons_succ])
    | (refine own_load 16 0 O rfl rfl rfl rfl rfl Try.underlying27 rfl (by kernel_rfl) ?_; simp only [Act.put, List.setIfInBounds_toArray, List.set_cons_zero, List.set_cons_succ])
    | (go_at_call 23; refine ((HV _ O.keep).out).mono ?_; rintro e W ⟨rfl, K⟩; replace O := O.keeps K; clear K))
  go_returns
  exact ⟨by rw [HF.out]; rfl, O.keep⟩
set_option maxRecDepth 100000 in
theorem rv_long (hS : SysIn w S A c R d) (_hE : EvsAt w B n E) (h : validB S = true) (hn : 40000 < n) : Calls Try.prog 29 #[.agg (sysV S A c R d), .slice B n cb] w fun e w' => e = .returned (.tuple #[.int .i64 (thr S E n).2.1, .int .i64 (thr S E n).1, .int .i64 (thr S E n).2.2]) ∧ Keeps w w' [] := by
  have O := Own.start w []
  have HV : ∀ u, Keeps w u [] → Hid (Calls Try.prog 23 #[.agg (sysV S A c R d)] u fun e w' => e = .returned (.bool true) ∧ Keeps u w' []) := fun u k => Lib.hid (by have := refvalid_any (hS.kept k); rwa [h] at this)
  have HF := Lib.hid (show thr S E n = (0, 0, 2) by simp [thr, h, hn])
  have g0 : 40000 < (n : Int) := by omega
  clear h hn
  clear hS _hE
  go_enter Try.func29, Try.ntmps29
  go_wp2_with (first
    | go_big_skip
    | (refine own_box 2 (sysV S A c R d) O rfl rfl rfl rfl ?_; clear O; intro W a2 O; simp only [Act.put, List.setIfInBounds_toArray, List.set_cons_zero, List.set_cons_succ])
    | (refine own_load 9 0 O rfl rfl rfl rfl rfl Try.underlying27 rfl (by kernel_rfl) ?_; simp only [Act.put, List.setIfInBounds_toArray, List.set_cons_zero, List.set_cons_succ])
    | (refine own_load 16 0 O rfl rfl rfl rfl rfl Try.underlying27 rfl (by kernel_rfl) ?_; simp only [Act.put, List.setIfInBounds_toArray, List.set_cons_zero, List.set_cons_succ])
    | (go_at_call 23; refine ((HV _ O.keep).out).mono ?_; rintro e W ⟨rfl, K⟩; replace O := O.keeps K; clear K))
  go_returns
  exact ⟨by rw [HF.out]; rfl, O.keep⟩
set_option maxRecDepth 100000 in
theorem rv_bad (hS : SysIn w S A c R d) (hE : EvsAt w B n E) (h : validB S = true) (hn : n ≤ 40000) (i : Nat) (hf : firstBad S E n = some i) : Calls Try.prog 29 #[.agg (sysV S A c R d), .slice B n cb] w fun e w' => e = .returned (.tuple #[.int .i64 (thr S E n).2.1, .int .i64 (thr S E n).1, .int .i64 (thr S E n).2.2]) ∧ Keeps w w' [] := by
  have O := Own.start w []
  have HV : ∀ u, Keeps w u [] → Hid (Calls Try.prog 23 #[.agg (sysV S A c R d)] u fun e w' => e = .returned (.bool true) ∧ Keeps u w' []) := fun u k => Lib.hid (by have := refvalid_any (hS.kept k); rwa [h] at this)
  have HT : ∀ u, Keeps w u [] → Hid (Calls Try.prog 61 #[.agg (sysV S A c R d), .slice B n cb] u fun e w' => e = .returned (.tuple #[.int .i64 (i : Int), .int .i64 0]) ∧ Keeps u w' []) := fun u k => Lib.hid (by have := fault_any ((validB_iff S).1 h).1 (hS.kept k) (hE.kept k) (cb := cb) (by omega); rwa [show flt S E n = ((i : Int), 0) by simp [flt, hf]] at this)
  have HF := Lib.hid (show thr S E n = (0, (i : Int), 140) by simp [thr, h, hf]; omega)
  have g0 : ¬ 40000 < (n : Int) := by omega
  have g1 : (0 : Int) ≤ i := by omega
  clear h hn hf
  clear hS hE
  go_enter Try.func29, Try.ntmps29
  go_wp2_with (first
    | go_big_skip
    | (refine own_box 2 (sysV S A c R d) O rfl rfl rfl rfl ?_; clear O; intro W a2 O; simp only [Act.put, List.setIfInBounds_toArray, List.set_cons_zero, List.set_cons_succ])
    | (refine own_load 9 0 O rfl rfl rfl rfl rfl Try.underlying27 rfl (by kernel_rfl) ?_; simp only [Act.put, List.setIfInBounds_toArray, List.set_cons_zero, List.set_cons_succ])
    | (refine own_load 16 0 O rfl rfl rfl rfl rfl Try.underlying27 rfl (by kernel_rfl) ?_; simp only [Act.put, List.setIfInBounds_toArray, List.set_cons_zero, List.set_cons_succ])
    | (go_at_call 23; refine ((HV _ O.keep).out).mono ?_; rintro e W ⟨rfl, K⟩; replace O := O.keeps K; clear K)
    | (go_at_call 61; refine ((HT _ O.keep).out).mono ?_; rintro e W ⟨rfl, K⟩; replace O := O.keeps K; clear K))
  go_returns
  exact ⟨by rw [HF.out]; rfl, O.keep⟩
set_option maxRecDepth 100000 in
theorem rv_good (hS : SysIn w S A c R d) (hE : EvsAt w B n E) (h : validB S = true) (hn : n ≤ 40000) (hf : firstBad S E n = none) : Calls Try.prog 29 #[.agg (sysV S A c R d), .slice B n cb] w fun e w' => e = .returned (.tuple #[.int .i64 (thr S E n).2.1, .int .i64 (thr S E n).1, .int .i64 (thr S E n).2.2]) ∧ Keeps w w' [] := by
  have O := Own.start w []
  have HV : ∀ u, Keeps w u [] → Hid (Calls Try.prog 23 #[.agg (sysV S A c R d)] u fun e w' => e = .returned (.bool true) ∧ Keeps u w' []) := fun u k => Lib.hid (by have := refvalid_any (hS.kept k); rwa [h] at this)
  have HT : ∀ u, Keeps w u [] → Hid (Calls Try.prog 61 #[.agg (sysV S A c R d), .slice B n cb] u fun e w' => e = .returned (.tuple #[.int .i64 (-1), .int .i64 (stN E n).r]) ∧ Keeps u w' []) := fun u k => Lib.hid (by have := fault_any ((validB_iff S).1 h).1 (hS.kept k) (hE.kept k) (cb := cb) (by omega); rwa [show flt S E n = ((-1), (stN E n).r) by simp [flt, hf]] at this)
  have HF := Lib.hid (show thr S E n = ((stN E n).r, 0, 0) by simp [thr, h, hf]; omega)
  have g0 : ¬ 40000 < (n : Int) := by omega
  clear h hn hf
  clear hS hE
  go_enter Try.func29, Try.ntmps29
  go_wp2_with (first
    | go_big_skip
    | (refine own_box 2 (sysV S A c R d) O rfl rfl rfl rfl ?_; clear O; intro W a2 O; simp only [Act.put, List.setIfInBounds_toArray, List.set_cons_zero, List.set_cons_succ])
    | (refine own_load 9 0 O rfl rfl rfl rfl rfl Try.underlying27 rfl (by kernel_rfl) ?_; simp only [Act.put, List.setIfInBounds_toArray, List.set_cons_zero, List.set_cons_succ])
    | (refine own_load 16 0 O rfl rfl rfl rfl rfl Try.underlying27 rfl (by kernel_rfl) ?_; simp only [Act.put, List.setIfInBounds_toArray, List.set_cons_zero, List.set_cons_succ])
    | (go_at_call 23; refine ((HV _ O.keep).out).mono ?_; rintro e W ⟨rfl, K⟩; replace O := O.keeps K; clear K)
    | (go_at_call 61; refine ((HT _ O.keep).out).mono ?_; rintro e W ⟨rfl, K⟩; replace O := O.keeps K; clear K))
  go_returns
  exact ⟨by rw [HF.out]; rfl, O.keep⟩
theorem rvalid_any (hS : SysIn w S A c R d) (hE : EvsAt w B n E) : Calls Try.prog 29 #[.agg (sysV S A c R d), .slice B n cb] w fun e w' => e = .returned (.tuple #[.int .i64 (thr S E n).2.1, .int .i64 (thr S E n).1, .int .i64 (thr S E n).2.2]) ∧ Keeps w w' [] := by
  cases h : validB S with
  | false => exact rv_sys hS hE h
  | true =>
    by_cases hn : 40000 < n
    · exact rv_long hS hE h hn
    · cases hf : firstBad S E n with
      | none => exact rv_good hS hE h (by omega) hf
      | some i => exact rv_bad hS hE h (by omega) i hf
end
end Go.Proofs.Ytakmcpadkanggaa
namespace Go.Proofs.Ytakmcpadkanggaa
open Go.RowKit Go.Maps Go.Deep
section
variable {w : World} {n : Nat} {E : Nat → Ev} {B : Option Addr} {cb : Nat}
set_option maxRecDepth 100000 in
theorem alikes_same (v v' : Value) (xs : List Int) (hn : xs.length ≤ 1000000) (h : IntL w v xs) (h' : IntL w v' xs) : Calls Try.prog 34 #[v, v'] w fun e w' => e = .returned (.bool true) ∧ Keeps w w' [] := by
  obtain ⟨A, c, rfl, hx⟩ := h
  obtain ⟨A', c', rfl, hx'⟩ := h'
  generalize hl : xs.length = m at *
  have HX := Lib.hid hx
  have HX' := Lib.hid hx'
  clear hx hx' hl
  go_enter Try.func34, Try.ntmps34
  go_wp2
  go_loopw [5] (fun i wr => ∃ k : Nat, k ≤ m ∧ i = .int .i64 k ∧ Keeps w wr []) (fun i _ => m - (intOf i).toNat)
  case atStart => exact ⟨0, by omega, rfl, Keeps.refl _ _⟩
  case round =>
    obtain ⟨k, hk, rfl, K⟩ := hrel
    by_cases hlt : k < m
    · have g1 : ((k : Int)) < m := by omega
      have g0 : (0 : Int) ≤ k := by omega
      obtain ⟨ad, rfl, hb, hc⟩ := HX.out (by omega)
      obtain ⟨ad', rfl, hb', hc'⟩ := HX'.out (by omega)
      have c1 : ∀ p : Later wr, p.1.cell? (ad.add k) = some (.int .i64 (xs.getD k 0)) := fun p => ((K.trans p.2 (by simp)).cellAt (by rw [add_block]; exact hb) (by simp)).trans (hc k hlt)
      have c2 : ∀ p : Later wr, p.1.cell? (ad'.add k) = some (.int .i64 (xs.getD k 0)) := fun p => ((K.trans p.2 (by simp)).cellAt (by rw [add_block]; exact hb') (by simp)).trans (hc' k hlt)
      clear hc hc' hb hb'
      generalize xs.getD k 0 = x at c1 c2
      have e1 : (x != x) = false := by simp
      go_wp2
      refine wp_quiet_later (by kernel_rfl) (by kernel_rfl) ?_
      repeat (first
        | go_big_quiet_skip
        | go_big_quiet_step (fail))
      refine wpQuiet_nil ?_
      intro _ hw
      obtain ⟨p', rfl⟩ := hw
      replace K := K.trans p'.2 (by simp)
      clear c1 c2 e1
      generalize p'.1 = W at K ⊢
      go_wp2
      go_roundw
      case rel => exact ⟨k + 1, by omega, by go_num, K⟩
      case measure => (simp [intOf] <;> omega)
    · obtain rfl : k = m := by omega
      go_wp2
      go_ret
      exact ⟨rfl, K⟩
end
end Go.Proofs.Ytakmcpadkanggaa
namespace Go.Proofs.Ytakmcpadkanggaa
open Go.RowKit Go.Maps Go.Deep
section
variable {w : World} {S : Sys} {A : Option Addr} {c : Nat} {R : Option Addr} {d n : Nat} {E : Nat → Ev} {B : Option Addr} {cb : Nat}
theorem thr_zero (h : (thr S E n).2.2 = 0) : validB S = true ∧ n ≤ 40000 ∧ ∀ j, j < n → okE S (stN E j) (E j) = true := by
  unfold thr at h
  cases hv : validB S with
  | false => rw [hv] at h; simp at h
  | true =>
    rw [hv] at h
    by_cases hn : 40000 < n
    · simp [hn] at h
    · rw [if_pos rfl, if_neg hn] at h
      cases hf : firstBad S E n with
      | some i => rw [hf] at h; simp at h
      | none =>
        refine ⟨rfl, by omega, fun j hj => ?_⟩
        unfold firstBad at hf
        rw [List.find?_eq_none] at hf
        have := hf j (List.mem_range.2 hj)
        simpa using this
end
end Go.Proofs.Ytakmcpadkanggaa
namespace Go.Proofs.Ytakmcpadkanggaa
open Go.RowKit
def updN {α : Type} (f : Nat → α) (i : Nat) (x : α) : Nat → α := fun j => if j = i then x else f j
end Go.Proofs.Ytakmcpadkanggaa

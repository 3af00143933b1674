/-
 Part 4 of what this claim rests on.
-/
import Derived.Carry
import Derived.Handy
import Derived.Lib.SlicesCompact
import Derived.OrdersHeld
import Derived.Deep.DeepCutAuto
import Derived.Deep.LoopGhost
import Derived.Test.YtakmcpadkanggaaOd3
namespace Go.Proofs.Ytakmcpadkanggaa
open Go.RowKit Go.Maps
def layV (S : Sys) (A : Option Addr) (c : Nat) (R : Option Addr) (d : Nat) (r : Int) (bh bs bt bu : Nat) : Array Value := #[.slice A S.np c, .slice R S.nr d, .int .i64 S.gr, .int .i64 S.lk, .int .i64 S.ce, .int .i64 r, .map (some bh), .map (some bs), .map (some bt), .map (some bu)]
structure LayAt (W : World) (S : Sys) (A : Option Addr) (c : Nat) (R : Option Addr) (d y bh bs bt bu n : Nat) (st : St) : Prop where
 y : Blk W y 156 (layV S A c R d st.r bh bs bt bu)
 h : MapB W bh n st.held
 s : MapI W bs n st.sent
 t : MapI W bt n st.took
 u : MapB W bu n st.shut
 ne : bh ≠ bs ∧ bh ≠ bt ∧ bh ≠ bu ∧ bs ≠ bt ∧ bs ≠ bu ∧ bt ≠ bu
section
variable {w u W : World} {S : Sys} {A : Option Addr} {c : Nat} {R : Option Addr} {d y bh bs bt bu n m : Nat} {st : St}
theorem MapI.mono {b : Nat} {f : Int → Int} (h : MapI w b n f) (k : n ≤ m) : MapI w b m f := by obtain ⟨D, h1, h2⟩ := h; exact ⟨D, h1.mono k, h2⟩
theorem MapB.mono {b : Nat} {f : Int → Bool} (h : MapB w b n f) (k : n ≤ m) : MapB w b m f := by obtain ⟨D, h1, h2⟩ := h; exact ⟨D, h1.mono k, h2⟩
theorem LayAt.kept (l : LayAt w S A c R d y bh bs bt bu n st) (k : Keeps w u []) : LayAt u S A c R d y bh bs bt bu n st :=
 ⟨l.y.keeps k (by simp), l.h.keeps k (by simp), l.s.keeps k (by simp), l.t.keeps k (by simp), l.u.keeps k (by simp), l.ne⟩
theorem LayAt.mono (l : LayAt w S A c R d y bh bs bt bu n st) (k : n ≤ m) : LayAt w S A c R d y bh bs bt bu m st := ⟨l.y, l.h.mono k, l.s.mono k, l.t.mono k, l.u.mono k, l.ne⟩
theorem LayAt.sysAt (l : LayAt w S A c R d y bh bs bt bu n st) (j : Nat) (hj : j < (sysV S A c R d).size) : w.cell? ((⟨y, 0, none⟩ : Addr).add j) = (sysV S A c R d)[j]? := by
 rw [add_zero_, l.y.cell]
 have hj' : j < 5 := hj
 match j, hj' with
 | 0, _ => rfl
 | 1, _ => rfl
 | 2, _ => rfl
 | 3, _ => rfl
 | 4, _ => rfl
theorem LayAt.yne (l : LayAt w S A c R d y bh bs bt bu n st) : y ≠ bh ∧ y ≠ bs ∧ y ≠ bt ∧ y ≠ bu := ⟨l.h.not_blk l.y, l.s.not_blk l.y, l.t.not_blk l.y, l.u.not_blk l.y⟩
theorem LayAt.setY (l : LayAt w S A c R d y bh bs bt bu n st) {r : Int} (k : Keeps w u [y]) (b : Blk u y 156 (layV S A c R d r bh bs bt bu)) : LayAt u S A c R d y bh bs bt bu n { st with r := r } := by
 obtain ⟨h1, h2, h3, h4⟩ := l.yne
 exact ⟨b, l.h.keeps k (by simpa using h1.symm), l.s.keeps k (by simpa using h2.symm), l.t.keeps k (by simpa using h3.symm), l.u.keeps k (by simpa using h4.symm), l.ne⟩
theorem LayAt.setH (l : LayAt w S A c R d y bh bs bt bu n st) {f : Int → Bool} (k : Keeps w u [bh]) (b : MapB u bh (n + 1) f) : LayAt u S A c R d y bh bs bt bu (n + 1) { st with held := f } := by
 obtain ⟨h1, h2, h3, h4⟩ := l.yne
 obtain ⟨n1, n2, n3, n4, n5, n6⟩ := l.ne
 exact ⟨l.y.keeps k (by simpa using h1), b, (l.s.keeps k (by simpa using n1.symm)).mono (by omega), (l.t.keeps k (by simpa using n2.symm)).mono (by omega), (l.u.keeps k (by simpa using n3.symm)).mono (by omega), l.ne⟩
theorem LayAt.setS (l : LayAt w S A c R d y bh bs bt bu n st) {f : Int → Int} (k : Keeps w u [bs]) (b : MapI u bs (n + 1) f) : LayAt u S A c R d y bh bs bt bu (n + 1) { st with sent := f } := by
 obtain ⟨h1, h2, h3, h4⟩ := l.yne
 obtain ⟨n1, n2, n3, n4, n5, n6⟩ := l.ne
 exact ⟨l.y.keeps k (by simpa using h2), (l.h.keeps k (by simpa using n1)).mono (by omega), b, (l.t.keeps k (by simpa using n4.symm)).mono (by omega), (l.u.keeps k (by simpa using n5.symm)).mono (by omega), l.ne⟩
theorem LayAt.setT (l : LayAt w S A c R d y bh bs bt bu n st) {f : Int → Int} (k : Keeps w u [bt]) (b : MapI u bt (n + 1) f) : LayAt u S A c R d y bh bs bt bu (n + 1) { st with took := f } := by
 obtain ⟨h1, h2, h3, h4⟩ := l.yne
 obtain ⟨n1, n2, n3, n4, n5, n6⟩ := l.ne
 exact ⟨l.y.keeps k (by simpa using h3), (l.h.keeps k (by simpa using n2)).mono (by omega), (l.s.keeps k (by simpa using n4)).mono (by omega), b, (l.u.keeps k (by simpa using n6.symm)).mono (by omega), l.ne⟩
theorem LayAt.setU (l : LayAt w S A c R d y bh bs bt bu n st) {f : Int → Bool} (k : Keeps w u [bu]) (b : MapB u bu (n + 1) f) : LayAt u S A c R d y bh bs bt bu (n + 1) { st with shut := f } := by
 obtain ⟨h1, h2, h3, h4⟩ := l.yne
 obtain ⟨n1, n2, n3, n4, n5, n6⟩ := l.ne
 exact ⟨l.y.keeps k (by simpa using h4), (l.h.keeps k (by simpa using n3)).mono (by omega), (l.s.keeps k (by simpa using n5)).mono (by omega), (l.t.keeps k (by simpa using n6)).mono (by omega), b, l.ne⟩
set_option maxRecDepth 10000 in
theorem look_eqI {b : Nat} {f : Int → Int} (m : MapI w b n f) (T : TypeId) (ht : Try.prog.underlying T = some (.map 3 3)) (k : Int) (hk : (Lit.int .i64 k).wf = true) : (Instr.lookup T (.map (some b)) (.int .i64 k) false).run Try.prog w = .ok (.int .i64 (f k)) w := by
 obtain ⟨D, h1, h2⟩ := m
 obtain ⟨x, hr, hat, _⟩ := h1.lookup_int key3 ht Try.underlying3 (zero3 w) (keyOf_int_mk Try.underlying3 hk)
 rw [h2] at hat
 injection hat with e
 injection e with _ e
 rw [hr, e]
set_option maxRecDepth 10000 in
theorem look_eqB {b : Nat} {f : Int → Bool} (m : MapB w b n f) (T : TypeId) (ht : Try.prog.underlying T = some (.map 3 4)) (k : Int) (hk : (Lit.int .i64 k).wf = true) : (Instr.lookup T (.map (some b)) (.int .i64 k) false).run Try.prog w = .ok (.bool (f k)) w := by
 obtain ⟨D, h1, h2⟩ := m
 obtain ⟨v, ps, hrun, hR⟩ := h1.lookup (e := 4) key3 ht (zero4 w) (plainElem_bool Try.underlying4 false) (keyOf_int_mk Try.underlying3 hk)
 rw [h2] at hR
 have hv : v = .bool (f k) := by
   unfold plainElem at hR
   rw [Try.underlying4] at hR
   cases v <;> simp at hR
   rw [hR.1]
 rw [hrun, hv]
end
def NextPost (S : Sys) (A : Option Addr) (c : Nat) (R : Option Addr) (d y bh bs bt bu n : Nat) (st : St) (e : Ev) (w : World) (x : Ending) (w' : World) : Prop :=
 x = .returned (.bool (okE S st e)) ∧ Keeps w w' [y, bh, bs, bt, bu] ∧ (okE S st e = true → LayAt w' S A c R d y bh bs bt bu (n + 1) (nextE st e))
theorem Keeps.wide {w u : World} {L L' : List Nat} (k : Keeps w u L) (h : ∀ b ∈ L, b ∈ L') : Keeps w u L' := ⟨k.os, k.tape, k.output, k.size, fun b hb hn => k.block b hb fun hm => hn (h b hm)⟩
section
variable {w : World} {S : Sys} {A : Option Addr} {c : Nat} {R : Option Addr} {d y bh bs bt bu n : Nat} {st : St}
theorem kq {P : Program} {ops : Array Oper} {C : World → Prop} {w : World} {Q : Act → World → Prop} {a : Act} (h : ∀ p : Later w, Q a p.1) : wpQuiet P ops C (fun a' => ∀ w', (∃ p : Later w, w' = p.1) → Q a' w') [] a := fun _ ⟨p, e⟩ => e ▸ h p
set_option maxRecDepth 100000 in
set_option maxHeartbeats 1000000 in
theorem next_bad0 (e : Ev) (l : LayAt w S A c R d y bh bs bt bu n st)  (g0 : e.who < 0) : Calls Try.prog 92 #[.pointer (some ⟨y, 0, none⟩), .agg (evC e)] w (NextPost S A c R d y bh bs bt bu n st e w) := by
 have O := Own.start w []
 have HL := Lib.hid l
 clear l
 have q0 : decide (e.who < 0) = true := decide_eq_true (by omega)
 have HF := Lib.hid (show okE S st e = false by simp [okE, headE]; omega)
 unfold evC

 go_enter Try.func92, Try.ntmps92
 go_wp2_with (first
   | go_big_skip
   | (refine own_box 3 (#[Value.int .i64 e.who, .int .i64 e.op, .int .i64 e.a, .int .i64 e.v, .bool e.sh]) O rfl rfl rfl rfl ?_; clear O; intro W a3 O; simp only [Act.put, kA, kZ, kS]))
 have c3 := Later.cell (O.get 0 rfl)
 have cy : ∀ p : Later W, p.1.cell? ⟨y, 5, none⟩ = some (.int .i64 st.r) := fun p => (HL.out.kept (O.keep.trans p.2 (by simp))).y.cell 5
 refine wp_quiet_later (by kernel_rfl) (by kernel_rfl) ?_
 repeat (first | go_big_quiet_skip | go_big_quiet_step (fail))
 refine kq fun p' => ?_
 replace O := O.keeps p'.2
 clear c3 cy
 generalize p'.1 = W at O ⊢
 go_wp2
 go_ret
 exact ⟨by rw [HF.out]; rfl, O.keep.wide (by simp), fun h => by rw [HF.out] at h; cases h⟩
set_option maxRecDepth 100000 in
set_option maxHeartbeats 1000000 in
theorem next_bad1 (e : Ev) (l : LayAt w S A c R d y bh bs bt bu n st) (g0 : ¬ e.who < 0) (g1 : st.r ≤ e.who) : Calls Try.prog 92 #[.pointer (some ⟨y, 0, none⟩), .agg (evC e)] w (NextPost S A c R d y bh bs bt bu n st e w) := by
 have O := Own.start w []
 have HL := Lib.hid l
 clear l
 have q0 : decide (e.who < 0) = false := decide_eq_false (by omega)
 have q1 : decide (st.r ≤ e.who) = true := decide_eq_true (by omega)
 have HF := Lib.hid (show okE S st e = false by simp [okE, headE]; omega)
 unfold evC

 go_enter Try.func92, Try.ntmps92
 go_wp2_with (first
   | go_big_skip
   | (refine own_box 3 (#[Value.int .i64 e.who, .int .i64 e.op, .int .i64 e.a, .int .i64 e.v, .bool e.sh]) O rfl rfl rfl rfl ?_; clear O; intro W a3 O; simp only [Act.put, kA, kZ, kS]))
 have c3 := Later.cell (O.get 0 rfl)
 have cy : ∀ p : Later W, p.1.cell? ⟨y, 5, none⟩ = some (.int .i64 st.r) := fun p => (HL.out.kept (O.keep.trans p.2 (by simp))).y.cell 5
 refine wp_quiet_later (by kernel_rfl) (by kernel_rfl) ?_
 repeat (first | go_big_quiet_skip | go_big_quiet_step (fail))
 refine kq fun p' => ?_
 replace O := O.keeps p'.2
 clear c3 cy
 generalize p'.1 = W at O ⊢
 go_wp2
 go_ret
 exact ⟨by rw [HF.out]; rfl, O.keep.wide (by simp), fun h => by rw [HF.out] at h; cases h⟩
set_option maxRecDepth 100000 in
set_option maxHeartbeats 1000000 in
theorem next_bad2 (e : Ev) (l : LayAt w S A c R d y bh bs bt bu n st) (g0 : ¬ e.who < 0) (g1 : ¬ st.r ≤ e.who) (g2 : e.op < 1) : Calls Try.prog 92 #[.pointer (some ⟨y, 0, none⟩), .agg (evC e)] w (NextPost S A c R d y bh bs bt bu n st e w) := by
 have O := Own.start w []
 have HL := Lib.hid l
 clear l
 have q0 : decide (e.who < 0) = false := decide_eq_false (by omega)
 have q1 : decide (st.r ≤ e.who) = false := decide_eq_false (by omega)
 have q2 : decide (e.op < 1) = true := decide_eq_true (by omega)
 have HF := Lib.hid (show okE S st e = false by simp [okE, headE]; omega)
 unfold evC

 go_enter Try.func92, Try.ntmps92
 go_wp2_with (first
   | go_big_skip
   | (refine own_box 3 (#[Value.int .i64 e.who, .int .i64 e.op, .int .i64 e.a, .int .i64 e.v, .bool e.sh]) O rfl rfl rfl rfl ?_; clear O; intro W a3 O; simp only [Act.put, kA, kZ, kS]))
 have c3 := Later.cell (O.get 0 rfl)
 have cy : ∀ p : Later W, p.1.cell? ⟨y, 5, none⟩ = some (.int .i64 st.r) := fun p => (HL.out.kept (O.keep.trans p.2 (by simp))).y.cell 5
 refine wp_quiet_later (by kernel_rfl) (by kernel_rfl) ?_
 repeat (first | go_big_quiet_skip | go_big_quiet_step (fail))
 refine kq fun p' => ?_
 replace O := O.keeps p'.2
 clear c3 cy
 generalize p'.1 = W at O ⊢
 go_wp2
 go_ret
 exact ⟨by rw [HF.out]; rfl, O.keep.wide (by simp), fun h => by rw [HF.out] at h; cases h⟩
set_option maxRecDepth 100000 in
set_option maxHeartbeats 1000000 in
theorem next_bad3 (e : Ev) (l : LayAt w S A c R d y bh bs bt bu n st) (g0 : ¬ e.who < 0) (g1 : ¬ st.r ≤ e.who) (g2 : ¬ e.op < 1) (g3 : 16 < e.op) : Calls Try.prog 92 #[.pointer (some ⟨y, 0, none⟩), .agg (evC e)] w (NextPost S A c R d y bh bs bt bu n st e w) := by
 have O := Own.start w []
 have HL := Lib.hid l
 clear l
 have q0 : decide (e.who < 0) = false := decide_eq_false (by omega)
 have q1 : decide (st.r ≤ e.who) = false := decide_eq_false (by omega)
 have q2 : decide (e.op < 1) = false := decide_eq_false (by omega)
 have q3 : decide (16 < e.op) = true := decide_eq_true (by omega)
 have HF := Lib.hid (show okE S st e = false by simp [okE, headE]; omega)
 unfold evC

 go_enter Try.func92, Try.ntmps92
 go_wp2_with (first
   | go_big_skip
   | (refine own_box 3 (#[Value.int .i64 e.who, .int .i64 e.op, .int .i64 e.a, .int .i64 e.v, .bool e.sh]) O rfl rfl rfl rfl ?_; clear O; intro W a3 O; simp only [Act.put, kA, kZ, kS]))
 have c3 := Later.cell (O.get 0 rfl)
 have cy : ∀ p : Later W, p.1.cell? ⟨y, 5, none⟩ = some (.int .i64 st.r) := fun p => (HL.out.kept (O.keep.trans p.2 (by simp))).y.cell 5
 refine wp_quiet_later (by kernel_rfl) (by kernel_rfl) ?_
 repeat (first | go_big_quiet_skip | go_big_quiet_step (fail))
 refine kq fun p' => ?_
 replace O := O.keeps p'.2
 clear c3 cy
 generalize p'.1 = W at O ⊢
 go_wp2
 go_ret
 exact ⟨by rw [HF.out]; rfl, O.keep.wide (by simp), fun h => by rw [HF.out] at h; cases h⟩
set_option maxRecDepth 100000 in
set_option maxHeartbeats 1000000 in
theorem next_bada0 (e : Ev) (l : LayAt w S A c R d y bh bs bt bu n st) (g0 : ¬ e.who < 0) (g1 : ¬ st.r ≤ e.who) (g2 : ¬ e.op < 1) (g3 : ¬ 16 < e.op) (g4 : 0 ≤ cnt S e.op) (g5 : e.a < 0) : Calls Try.prog 92 #[.pointer (some ⟨y, 0, none⟩), .agg (evC e)] w (NextPost S A c R d y bh bs bt bu n st e w) := by
 have O := Own.start w []
 have HL := Lib.hid l
 clear l
 have q0 : decide (e.who < 0) = false := decide_eq_false (by omega)
 have q1 : decide (st.r ≤ e.who) = false := decide_eq_false (by omega)
 have q2 : decide (e.op < 1) = false := decide_eq_false (by omega)
 have q3 : decide (16 < e.op) = false := decide_eq_false (by omega)
 have HF := Lib.hid (show okE S st e = false by simp [okE, headE]; omega)
 unfold evC

 go_enter Try.func92, Try.ntmps92
 go_wp2_with (first
   | go_big_skip
   | (refine own_box 3 (#[Value.int .i64 e.who, .int .i64 e.op, .int .i64 e.a, .int .i64 e.v, .bool e.sh]) O rfl rfl rfl rfl ?_; clear O; intro W a3 O; simp only [Act.put, kA, kZ, kS]))
 have c3 := Later.cell (O.get 0 rfl)
 have cy : ∀ p : Later W, p.1.cell? ⟨y, 5, none⟩ = some (.int .i64 st.r) := fun p => (HL.out.kept (O.keep.trans p.2 (by simp))).y.cell 5
 refine wp_quiet_later (by kernel_rfl) (by kernel_rfl) ?_
 repeat (first | go_big_quiet_skip | go_big_quiet_step (fail))
 refine kq fun p' => ?_
 replace O := O.keeps p'.2
 clear c3 cy
 generalize p'.1 = W at O ⊢
 go_wp2
 have c3 := Later.cell (O.get 0 rfl)
 have cy : ∀ p : Later W, p.1.cell? ⟨y, 5, none⟩ = some (.int .i64 st.r) := fun p => (HL.out.kept (O.keep.trans p.2 (by simp))).y.cell 5
 generalize hcn : cnt S e.op = cn at *
 have HCN : ∀ u, Hid (Calls Try.prog 109 #[.agg (sysV S A c R d), .int .i64 e.op] u fun e w' => e = .returned (.int .i64 cn) ∧ Keeps u w' []) := fun u => Lib.hid (by rw [← hcn]; exact sharedT_any S A c R d u e.op)
 have HCn := Lib.hid hcn
 clear hcn
 refine wp_quiet_later (by kernel_rfl) (by kernel_rfl) ?_
 repeat (first
   | go_big_quiet_skip
   | (refine wpQuiet_load_at (cs := sysV S A c R d) 31 rfl rfl rfl rfl (fun u hu => by obtain ⟨p', rfl⟩ := hu; exact (HL.out.kept (O.keep.trans p'.2 (by simp))).sysAt) Try.underlying27 rfl (by kernel_rfl) ?_; simp only [Act.put, kA, kZ, kS])
   | go_big_quiet_step ((go_at_call 109; exact later_of (HCN _).out)))
 refine kq fun p' => ?_
 replace O := O.keeps p'.2
 clear c3 cy
 generalize p'.1 = W at O ⊢
 have c3 := (O.get 0 rfl).cell
 go_wp2
 go_ret
 exact ⟨by rw [HF.out]; rfl, O.keep.wide (by simp), fun h => by rw [HF.out] at h; cases h⟩
set_option maxRecDepth 100000 in
set_option maxHeartbeats 1000000 in
theorem next_bada1 (e : Ev) (l : LayAt w S A c R d y bh bs bt bu n st) (g0 : ¬ e.who < 0) (g1 : ¬ st.r ≤ e.who) (g2 : ¬ e.op < 1) (g3 : ¬ 16 < e.op) (g4 : 0 ≤ cnt S e.op) (g5 : ¬ e.a < 0) (g6 : cnt S e.op ≤ e.a) : Calls Try.prog 92 #[.pointer (some ⟨y, 0, none⟩), .agg (evC e)] w (NextPost S A c R d y bh bs bt bu n st e w) := by
 have O := Own.start w []
 have HL := Lib.hid l
 clear l
 have q0 : decide (e.who < 0) = false := decide_eq_false (by omega)
 have q1 : decide (st.r ≤ e.who) = false := decide_eq_false (by omega)
 have q2 : decide (e.op < 1) = false := decide_eq_false (by omega)
 have q3 : decide (16 < e.op) = false := decide_eq_false (by omega)
 have HF := Lib.hid (show okE S st e = false by simp [okE, headE]; omega)
 unfold evC

 go_enter Try.func92, Try.ntmps92
 go_wp2_with (first
   | go_big_skip
   | (refine own_box 3 (#[Value.int .i64 e.who, .int .i64 e.op, .int .i64 e.a, .int .i64 e.v, .bool e.sh]) O rfl rfl rfl rfl ?_; clear O; intro W a3 O; simp only [Act.put, kA, kZ, kS]))
 have c3 := Later.cell (O.get 0 rfl)
 have cy : ∀ p : Later W, p.1.cell? ⟨y, 5, none⟩ = some (.int .i64 st.r) := fun p => (HL.out.kept (O.keep.trans p.2 (by simp))).y.cell 5
 refine wp_quiet_later (by kernel_rfl) (by kernel_rfl) ?_
 repeat (first | go_big_quiet_skip | go_big_quiet_step (fail))
 refine kq fun p' => ?_
 replace O := O.keeps p'.2
 clear c3 cy
 generalize p'.1 = W at O ⊢
 go_wp2
 have c3 := Later.cell (O.get 0 rfl)
 have cy : ∀ p : Later W, p.1.cell? ⟨y, 5, none⟩ = some (.int .i64 st.r) := fun p => (HL.out.kept (O.keep.trans p.2 (by simp))).y.cell 5
 generalize hcn : cnt S e.op = cn at *
 have HCN : ∀ u, Hid (Calls Try.prog 109 #[.agg (sysV S A c R d), .int .i64 e.op] u fun e w' => e = .returned (.int .i64 cn) ∧ Keeps u w' []) := fun u => Lib.hid (by rw [← hcn]; exact sharedT_any S A c R d u e.op)
 have HCn := Lib.hid hcn
 clear hcn
 refine wp_quiet_later (by kernel_rfl) (by kernel_rfl) ?_
 repeat (first
   | go_big_quiet_skip
   | (refine wpQuiet_load_at (cs := sysV S A c R d) 31 rfl rfl rfl rfl (fun u hu => by obtain ⟨p', rfl⟩ := hu; exact (HL.out.kept (O.keep.trans p'.2 (by simp))).sysAt) Try.underlying27 rfl (by kernel_rfl) ?_; simp only [Act.put, kA, kZ, kS])
   | go_big_quiet_step ((go_at_call 109; exact later_of (HCN _).out)))
 refine kq fun p' => ?_
 replace O := O.keeps p'.2
 clear c3 cy
 generalize p'.1 = W at O ⊢
 have c3 := (O.get 0 rfl).cell
 go_wp2
 go_ret
 exact ⟨by rw [HF.out]; rfl, O.keep.wide (by simp), fun h => by rw [HF.out] at h; cases h⟩
set_option maxRecDepth 100000 in
set_option maxHeartbeats 1000000 in
theorem next_14a (e : Ev) (l : LayAt w S A c R d y bh bs bt bu n st) (he : e.op = 14) (g0 : ¬ e.who < 0) (g1 : ¬ st.r ≤ e.who) (g4 : 0 ≤ cnt S 14) (g5 : ¬ e.a < 0) (g6 : ¬ cnt S 14 ≤ e.a) (_hwf : (Lit.int .i64 e.a).wf = true) (_hn : n < 100000) (_hb : ∀ j, 0 ≤ st.sent j ∧ st.sent j ≤ 100000 ∧ 0 ≤ st.took j ∧ st.took j ≤ 100000) (_hr : 0 ≤ st.r ∧ st.r ≤ 100000) (hv : e.v = 0) : Calls Try.prog 92 #[.pointer (some ⟨y, 0, none⟩), .agg (evC e)] w (NextPost S A c R d y bh bs bt bu n st e w) := by
 have O := Own.start w []
 have HL := Lib.hid l
 clear l
 have q0 : decide (e.who < 0) = false := decide_eq_false (by omega)
 have q1 : decide (st.r ≤ e.who) = false := decide_eq_false (by omega)
 have HF := Lib.hid (show okE S st e = bodyE st e by simp [okE, headE, he]; omega)
 have HB := Lib.hid (show bodyE st e = true by simp [bodyE, he, hv])
 have HN := Lib.hid (show nextE st e = st by simp [nextE, he, hv])
 unfold evC
 rw [he, hv]
 go_enter Try.func92, Try.ntmps92
 go_wp2_with (first
   | go_big_skip
   | (refine own_box 3 (#[Value.int .i64 e.who, .int .i64 14, .int .i64 e.a, .int .i64 0, .bool e.sh]) O rfl rfl rfl rfl ?_; clear O; intro W a3 O; simp only [Act.put, kA, kZ, kS]))
 have c3 := Later.cell (O.get 0 rfl)
 have cy : ∀ p : Later W, p.1.cell? ⟨y, 5, none⟩ = some (.int .i64 st.r) := fun p => (HL.out.kept (O.keep.trans p.2 (by simp))).y.cell 5
 refine wp_quiet_later (by kernel_rfl) (by kernel_rfl) ?_
 repeat (first | go_big_quiet_skip | go_big_quiet_step (fail))
 refine kq fun p' => ?_
 replace O := O.keeps p'.2
 clear c3 cy
 generalize p'.1 = W at O ⊢
 go_wp2
 have c3 := Later.cell (O.get 0 rfl)
 have cy : ∀ p : Later W, p.1.cell? ⟨y, 5, none⟩ = some (.int .i64 st.r) := fun p => (HL.out.kept (O.keep.trans p.2 (by simp))).y.cell 5
 generalize hcn : cnt S 14 = cn at *
 have HCN : ∀ u, Hid (Calls Try.prog 109 #[.agg (sysV S A c R d), .int .i64 14] u fun e w' => e = .returned (.int .i64 cn) ∧ Keeps u w' []) := fun u => Lib.hid (by rw [← hcn]; exact sharedT_any S A c R d u 14)
 have HCn := Lib.hid hcn
 clear hcn
 refine wp_quiet_later (by kernel_rfl) (by kernel_rfl) ?_
 repeat (first
   | go_big_quiet_skip
   | (refine wpQuiet_load_at (cs := sysV S A c R d) 31 rfl rfl rfl rfl (fun u hu => by obtain ⟨p', rfl⟩ := hu; exact (HL.out.kept (O.keep.trans p'.2 (by simp))).sysAt) Try.underlying27 rfl (by kernel_rfl) ?_; simp only [Act.put, kA, kZ, kS])
   | go_big_quiet_step ((go_at_call 109; exact later_of (HCN _).out)))
 refine kq fun p' => ?_
 replace O := O.keeps p'.2
 clear c3 cy
 generalize p'.1 = W at O ⊢
 have c3 := (O.get 0 rfl).cell
 go_wp2
 go_ret
 exact ⟨by rw [HF.out, HB.out]; rfl, O.keep.wide (by simp), fun h => (by rw [HN.out]; exact (HL.out.kept O.keep).mono (by omega))⟩
set_option maxRecDepth 100000 in
set_option maxHeartbeats 1000000 in
theorem next_14b (e : Ev) (l : LayAt w S A c R d y bh bs bt bu n st) (he : e.op = 14) (g0 : ¬ e.who < 0) (g1 : ¬ st.r ≤ e.who) (g4 : 0 ≤ cnt S 14) (g5 : ¬ e.a < 0) (g6 : ¬ cnt S 14 ≤ e.a) (_hwf : (Lit.int .i64 e.a).wf = true) (_hn : n < 100000) (_hb : ∀ j, 0 ≤ st.sent j ∧ st.sent j ≤ 100000 ∧ 0 ≤ st.took j ∧ st.took j ≤ 100000) (_hr : 0 ≤ st.r ∧ st.r ≤ 100000) (hv : ¬ e.v = 0) (hv2 : ¬ e.v = st.r) : Calls Try.prog 92 #[.pointer (some ⟨y, 0, none⟩), .agg (evC e)] w (NextPost S A c R d y bh bs bt bu n st e w) := by
 have O := Own.start w []
 have HL := Lib.hid l
 clear l
 have q0 : decide (e.who < 0) = false := decide_eq_false (by omega)
 have q1 : decide (st.r ≤ e.who) = false := decide_eq_false (by omega)
 have HF := Lib.hid (show okE S st e = bodyE st e by simp [okE, headE, he]; omega)
 have HB := Lib.hid (show bodyE st e = false by simp [bodyE, he, hv, hv2])
 have z : (e.v != st.r) = true := by simpa using hv2
 unfold evC
 rw [he]
 go_enter Try.func92, Try.ntmps92
 go_wp2_with (first
   | go_big_skip
   | (refine own_box 3 (#[Value.int .i64 e.who, .int .i64 14, .int .i64 e.a, .int .i64 e.v, .bool e.sh]) O rfl rfl rfl rfl ?_; clear O; intro W a3 O; simp only [Act.put, kA, kZ, kS]))
 have c3 := Later.cell (O.get 0 rfl)
 have cy : ∀ p : Later W, p.1.cell? ⟨y, 5, none⟩ = some (.int .i64 st.r) := fun p => (HL.out.kept (O.keep.trans p.2 (by simp))).y.cell 5
 refine wp_quiet_later (by kernel_rfl) (by kernel_rfl) ?_
 repeat (first | go_big_quiet_skip | go_big_quiet_step (fail))
 refine kq fun p' => ?_
 replace O := O.keeps p'.2
 clear c3 cy
 generalize p'.1 = W at O ⊢
 go_wp2
 have c3 := Later.cell (O.get 0 rfl)
 have cy : ∀ p : Later W, p.1.cell? ⟨y, 5, none⟩ = some (.int .i64 st.r) := fun p => (HL.out.kept (O.keep.trans p.2 (by simp))).y.cell 5
 generalize hcn : cnt S 14 = cn at *
 have HCN : ∀ u, Hid (Calls Try.prog 109 #[.agg (sysV S A c R d), .int .i64 14] u fun e w' => e = .returned (.int .i64 cn) ∧ Keeps u w' []) := fun u => Lib.hid (by rw [← hcn]; exact sharedT_any S A c R d u 14)
 have HCn := Lib.hid hcn
 clear hcn
 refine wp_quiet_later (by kernel_rfl) (by kernel_rfl) ?_
 repeat (first
   | go_big_quiet_skip
   | (refine wpQuiet_load_at (cs := sysV S A c R d) 31 rfl rfl rfl rfl (fun u hu => by obtain ⟨p', rfl⟩ := hu; exact (HL.out.kept (O.keep.trans p'.2 (by simp))).sysAt) Try.underlying27 rfl (by kernel_rfl) ?_; simp only [Act.put, kA, kZ, kS])
   | go_big_quiet_step ((go_at_call 109; exact later_of (HCN _).out)))
 refine kq fun p' => ?_
 replace O := O.keeps p'.2
 clear c3 cy
 generalize p'.1 = W at O ⊢
 have c3 := (O.get 0 rfl).cell
 go_wp2
 clear c3
 have c3 := Later.cell (O.get 0 rfl)
 have cy : ∀ p : Later W, p.1.cell? ⟨y, 5, none⟩ = some (.int .i64 st.r) := fun p => (HL.out.kept (O.keep.trans p.2 (by simp))).y.cell 5
 refine wp_quiet_later (by kernel_rfl) (by kernel_rfl) ?_
 repeat (first | go_big_quiet_skip | go_big_quiet_step (fail))
 refine kq fun p' => ?_
 replace O := O.keeps p'.2
 clear c3 cy
 generalize p'.1 = W at O ⊢
 go_wp2
 go_ret
 exact ⟨by rw [HF.out, HB.out]; rfl, O.keep.wide (by simp), fun h => (by rw [HF.out, HB.out] at h; cases h)⟩
set_option maxRecDepth 100000 in
set_option maxHeartbeats 1000000 in
theorem next_14c (e : Ev) (l : LayAt w S A c R d y bh bs bt bu n st) (he : e.op = 14) (g0 : ¬ e.who < 0) (g1 : ¬ st.r ≤ e.who) (g4 : 0 ≤ cnt S 14) (g5 : ¬ e.a < 0) (g6 : ¬ cnt S 14 ≤ e.a) (_hwf : (Lit.int .i64 e.a).wf = true) (_hn : n < 100000) (_hb : ∀ j, 0 ≤ st.sent j ∧ st.sent j ≤ 100000 ∧ 0 ≤ st.took j ∧ st.took j ≤ 100000) (hr : 0 ≤ st.r ∧ st.r ≤ 100000) (hv : ¬ e.v = 0) (hv2 : e.v = st.r) (hv3 : 512 ≤ st.r) : Calls Try.prog 92 #[.pointer (some ⟨y, 0, none⟩), .agg (evC e)] w (NextPost S A c R d y bh bs bt bu n st e w) := by
 have O := Own.start w []
 have HL := Lib.hid l
 clear l
 have q0 : decide (e.who < 0) = false := decide_eq_false (by omega)
 have q1 : decide (st.r ≤ e.who) = false := decide_eq_false (by omega)
 have HF := Lib.hid (show okE S st e = bodyE st e by simp [okE, headE, he]; omega)
 have HB := Lib.hid (show bodyE st e = false by simp [bodyE, he, hv]; omega)
 have q9 : decide (512 ≤ st.r) = true := decide_eq_true hv3
 have z0 : ¬ st.r = 0 := by omega
 unfold evC
 rw [he, hv2]
 go_enter Try.func92, Try.ntmps92
 go_wp2_with (first
   | go_big_skip
   | (refine own_box 3 (#[Value.int .i64 e.who, .int .i64 14, .int .i64 e.a, .int .i64 st.r, .bool e.sh]) O rfl rfl rfl rfl ?_; clear O; intro W a3 O; simp only [Act.put, kA, kZ, kS]))
 have c3 := Later.cell (O.get 0 rfl)
 have cy : ∀ p : Later W, p.1.cell? ⟨y, 5, none⟩ = some (.int .i64 st.r) := fun p => (HL.out.kept (O.keep.trans p.2 (by simp))).y.cell 5
 refine wp_quiet_later (by kernel_rfl) (by kernel_rfl) ?_
 repeat (first | go_big_quiet_skip | go_big_quiet_step (fail))
 refine kq fun p' => ?_
 replace O := O.keeps p'.2
 clear c3 cy
 generalize p'.1 = W at O ⊢
 go_wp2
 have c3 := Later.cell (O.get 0 rfl)
 have cy : ∀ p : Later W, p.1.cell? ⟨y, 5, none⟩ = some (.int .i64 st.r) := fun p => (HL.out.kept (O.keep.trans p.2 (by simp))).y.cell 5
 generalize hcn : cnt S 14 = cn at *
 have HCN : ∀ u, Hid (Calls Try.prog 109 #[.agg (sysV S A c R d), .int .i64 14] u fun e w' => e = .returned (.int .i64 cn) ∧ Keeps u w' []) := fun u => Lib.hid (by rw [← hcn]; exact sharedT_any S A c R d u 14)
 have HCn := Lib.hid hcn
 clear hcn
 refine wp_quiet_later (by kernel_rfl) (by kernel_rfl) ?_
 repeat (first
   | go_big_quiet_skip
   | (refine wpQuiet_load_at (cs := sysV S A c R d) 31 rfl rfl rfl rfl (fun u hu => by obtain ⟨p', rfl⟩ := hu; exact (HL.out.kept (O.keep.trans p'.2 (by simp))).sysAt) Try.underlying27 rfl (by kernel_rfl) ?_; simp only [Act.put, kA, kZ, kS])
   | go_big_quiet_step ((go_at_call 109; exact later_of (HCN _).out)))
 refine kq fun p' => ?_
 replace O := O.keeps p'.2
 clear c3 cy
 generalize p'.1 = W at O ⊢
 have c3 := (O.get 0 rfl).cell
 go_wp2
 clear c3
 have c3 := Later.cell (O.get 0 rfl)
 have cy : ∀ p : Later W, p.1.cell? ⟨y, 5, none⟩ = some (.int .i64 st.r) := fun p => (HL.out.kept (O.keep.trans p.2 (by simp))).y.cell 5
 refine wp_quiet_later (by kernel_rfl) (by kernel_rfl) ?_
 repeat (first | go_big_quiet_skip | go_big_quiet_step (fail))
 refine kq fun p' => ?_
 replace O := O.keeps p'.2
 clear c3 cy
 generalize p'.1 = W at O ⊢
 go_wp2
 go_ret
 exact ⟨by rw [HF.out, HB.out]; rfl, O.keep.wide (by simp), fun h => (by rw [HF.out, HB.out] at h; cases h)⟩
set_option maxRecDepth 100000 in
set_option maxHeartbeats 1000000 in
theorem next_14d (e : Ev) (l : LayAt w S A c R d y bh bs bt bu n st) (he : e.op = 14) (g0 : ¬ e.who < 0) (g1 : ¬ st.r ≤ e.who) (g4 : 0 ≤ cnt S 14) (g5 : ¬ e.a < 0) (g6 : ¬ cnt S 14 ≤ e.a) (_hwf : (Lit.int .i64 e.a).wf = true) (_hn : n < 100000) (_hb : ∀ j, 0 ≤ st.sent j ∧ st.sent j ≤ 100000 ∧ 0 ≤ st.took j ∧ st.took j ≤ 100000) (hr : 0 ≤ st.r ∧ st.r ≤ 100000) (hv : ¬ e.v = 0) (hv2 : e.v = st.r) (hv3 : ¬ 512 ≤ st.r) : Calls Try.prog 92 #[.pointer (some ⟨y, 0, none⟩), .agg (evC e)] w (NextPost S A c R d y bh bs bt bu n st e w) := by
 have O := Own.start w []
 have HL := Lib.hid l
 clear l
 have q0 : decide (e.who < 0) = false := decide_eq_false (by omega)
 have q1 : decide (st.r ≤ e.who) = false := decide_eq_false (by omega)
 have HF := Lib.hid (show okE S st e = bodyE st e by simp [okE, headE, he]; omega)
 have HB := Lib.hid (show bodyE st e = true by simp [bodyE, he, hv]; omega)
 have HN := Lib.hid (show nextE st e = { st with r := st.r + 1 } by simp [nextE, he, hv])
 have q9 : decide (512 ≤ st.r) = false := decide_eq_false hv3
 have z0 : ¬ st.r = 0 := by omega
 have r1 : IntKind.i64.wrap (st.r + 1) = st.r + 1 := IntWalk.i64_in _ (by omega)
 unfold evC
 rw [he, hv2]
 go_enter Try.func92, Try.ntmps92
 go_wp2_with (first
   | go_big_skip
   | (refine own_box 3 (#[Value.int .i64 e.who, .int .i64 14, .int .i64 e.a, .int .i64 st.r, .bool e.sh]) O rfl rfl rfl rfl ?_; clear O; intro W a3 O; simp only [Act.put, kA, kZ, kS]))
 have c3 := Later.cell (O.get 0 rfl)
 have cy : ∀ p : Later W, p.1.cell? ⟨y, 5, none⟩ = some (.int .i64 st.r) := fun p => (HL.out.kept (O.keep.trans p.2 (by simp))).y.cell 5
 refine wp_quiet_later (by kernel_rfl) (by kernel_rfl) ?_
 repeat (first | go_big_quiet_skip | go_big_quiet_step (fail))
 refine kq fun p' => ?_
 replace O := O.keeps p'.2
 clear c3 cy
 generalize p'.1 = W at O ⊢
 go_wp2
 have c3 := Later.cell (O.get 0 rfl)
 have cy : ∀ p : Later W, p.1.cell? ⟨y, 5, none⟩ = some (.int .i64 st.r) := fun p => (HL.out.kept (O.keep.trans p.2 (by simp))).y.cell 5
 generalize hcn : cnt S 14 = cn at *
 have HCN : ∀ u, Hid (Calls Try.prog 109 #[.agg (sysV S A c R d), .int .i64 14] u fun e w' => e = .returned (.int .i64 cn) ∧ Keeps u w' []) := fun u => Lib.hid (by rw [← hcn]; exact sharedT_any S A c R d u 14)
 have HCn := Lib.hid hcn
 clear hcn
 refine wp_quiet_later (by kernel_rfl) (by kernel_rfl) ?_
 repeat (first
   | go_big_quiet_skip
   | (refine wpQuiet_load_at (cs := sysV S A c R d) 31 rfl rfl rfl rfl (fun u hu => by obtain ⟨p', rfl⟩ := hu; exact (HL.out.kept (O.keep.trans p'.2 (by simp))).sysAt) Try.underlying27 rfl (by kernel_rfl) ?_; simp only [Act.put, kA, kZ, kS])
   | go_big_quiet_step ((go_at_call 109; exact later_of (HCN _).out)))
 refine kq fun p' => ?_
 replace O := O.keeps p'.2
 clear c3 cy
 generalize p'.1 = W at O ⊢
 have c3 := (O.get 0 rfl).cell
 go_wp2
 clear c3
 have c3 := Later.cell (O.get 0 rfl)
 have cy : ∀ p : Later W, p.1.cell? ⟨y, 5, none⟩ = some (.int .i64 st.r) := fun p => (HL.out.kept (O.keep.trans p.2 (by simp))).y.cell 5
 refine wp_quiet_later (by kernel_rfl) (by kernel_rfl) ?_
 repeat (first | go_big_quiet_skip | go_big_quiet_step (fail))
 refine kq fun p' => ?_
 replace O := O.keeps p'.2
 clear c3 cy
 generalize p'.1 = W at O ⊢
 have cy : W.cell? ⟨y, 5, none⟩ = some (.int .i64 st.r) := (HL.out.kept O.keep).y.cell 5
 go_wp2_with (first
   | (refine wpList_store_blk y 5 156 _ (.int .i64 (st.r + 1)) rfl rfl rfl rfl rfl (HL.out.kept O.keep).y (by show 5 < 10; omega) rfl rfl (by kernel_rfl) ?_; intro u K M))
 have L2 := Lib.hid ((HL.out.kept O.keep).setY K M)
 have K2 := Lib.hid ((O.keep.wide (L' := [y, bh, bs, bt, bu]) (by simp)).trans (K.wide (L' := [y, bh, bs, bt, bu]) (by simp)) (fun b hb _ => hb))
 clear M cy
 go_wp2
 go_ret
 exact ⟨by rw [HF.out, HB.out]; rfl, K2.out, fun h => (by rw [HN.out]; exact L2.out.mono (by omega))⟩
set_option maxRecDepth 100000 in
set_option maxHeartbeats 1000000 in
theorem next_5 (e : Ev) (l : LayAt w S A c R d y bh bs bt bu n st) (he : e.op = 5) (g0 : ¬ e.who < 0) (g1 : ¬ st.r ≤ e.who) (g4 : 0 ≤ cnt S 5) (g5 : ¬ e.a < 0) (g6 : ¬ cnt S 5 ≤ e.a) (hwf : (Lit.int .i64 e.a).wf = true) (hn : n < 100000) (hb : ∀ j, 0 ≤ st.sent j ∧ st.sent j ≤ 100000 ∧ 0 ≤ st.took j ∧ st.took j ≤ 100000) (_hr : 0 ≤ st.r ∧ st.r ≤ 100000)  : Calls Try.prog 92 #[.pointer (some ⟨y, 0, none⟩), .agg (evC e)] w (NextPost S A c R d y bh bs bt bu n st e w) := by
 have O := Own.start w []
 have HL := Lib.hid l
 clear l
 have q0 : decide (e.who < 0) = false := decide_eq_false (by omega)
 have q1 : decide (st.r ≤ e.who) = false := decide_eq_false (by omega)
 have HF := Lib.hid (show okE S st e = bodyE st e by simp [okE, headE, he]; omega)
 have HB := Lib.hid (show bodyE st e = true by simp [bodyE, he])
 have HN := Lib.hid (show nextE st e = { st with sent := updI st.sent e.a (st.sent e.a + 1) } by simp [nextE, he])
 have r1 : IntKind.i64.wrap (st.sent e.a + 1) = st.sent e.a + 1 := IntWalk.i64_in _ (by have := hb e.a; omega)
 unfold evC
 rw [he]
 go_enter Try.func92, Try.ntmps92
 go_wp2_with (first
   | go_big_skip
   | (refine own_box 3 (#[Value.int .i64 e.who, .int .i64 5, .int .i64 e.a, .int .i64 e.v, .bool e.sh]) O rfl rfl rfl rfl ?_; clear O; intro W a3 O; simp only [Act.put, kA, kZ, kS]))
 have c3 := Later.cell (O.get 0 rfl)
 have cy : ∀ p : Later W, p.1.cell? ⟨y, 5, none⟩ = some (.int .i64 st.r) := fun p => (HL.out.kept (O.keep.trans p.2 (by simp))).y.cell 5
 refine wp_quiet_later (by kernel_rfl) (by kernel_rfl) ?_
 repeat (first | go_big_quiet_skip | go_big_quiet_step (fail))
 refine kq fun p' => ?_
 replace O := O.keeps p'.2
 clear c3 cy
 generalize p'.1 = W at O ⊢
 go_wp2
 have c3 := Later.cell (O.get 0 rfl)
 have cy : ∀ p : Later W, p.1.cell? ⟨y, 5, none⟩ = some (.int .i64 st.r) := fun p => (HL.out.kept (O.keep.trans p.2 (by simp))).y.cell 5
 generalize hcn : cnt S 5 = cn at *
 have HCN : ∀ u, Hid (Calls Try.prog 109 #[.agg (sysV S A c R d), .int .i64 5] u fun e w' => e = .returned (.int .i64 cn) ∧ Keeps u w' []) := fun u => Lib.hid (by rw [← hcn]; exact sharedT_any S A c R d u 5)
 have HCn := Lib.hid hcn
 clear hcn
 refine wp_quiet_later (by kernel_rfl) (by kernel_rfl) ?_
 repeat (first
   | go_big_quiet_skip
   | (refine wpQuiet_load_at (cs := sysV S A c R d) 31 rfl rfl rfl rfl (fun u hu => by obtain ⟨p', rfl⟩ := hu; exact (HL.out.kept (O.keep.trans p'.2 (by simp))).sysAt) Try.underlying27 rfl (by kernel_rfl) ?_; simp only [Act.put, kA, kZ, kS])
   | go_big_quiet_step ((go_at_call 109; exact later_of (HCN _).out)))
 refine kq fun p' => ?_
 replace O := O.keeps p'.2
 clear c3 cy
 generalize p'.1 = W at O ⊢
 have c3 := (O.get 0 rfl).cell
 go_wp2
 clear c3
 have c3 := Later.cell (O.get 0 rfl)
 have cy : ∀ p : Later W, p.1.cell? ⟨y, 7, none⟩ = some (.map (some bs)) := fun p => (HL.out.kept (O.keep.trans p.2 (by simp))).y.cell 7
 have lk : ∀ p : Later W, (Instr.lookup 117 (.map (some bs)) (.int .i64 e.a) false).run Try.prog p.1 = .ok (.int .i64 (st.sent e.a)) p.1 := fun p => look_eqI (HL.out.kept (O.keep.trans p.2 (by simp))).s 117 Try.underlying117 e.a hwf
 refine wp_quiet_tail_later 8 (by kernel_rfl) (by kernel_rfl) ?_
 simp only [List.take, List.drop]
 repeat (first | go_big_quiet_skip | go_big_quiet_step (fail))
 refine kq fun p' => ?_
 replace O := O.keeps p'.2
 clear c3 cy lk
 generalize p'.1 = W at O ⊢
 refine map_storeI (HL.out.kept O.keep).s 117 Try.underlying117 rfl rfl rfl rfl hwf rfl (WalkArith.wf_i64 (by have := hb e.a; omega)) (by unfold maxLen; omega) ?_
 intro u K M
 have L2 := Lib.hid ((HL.out.kept O.keep).setS K M)
 have K2 := Lib.hid ((O.keep.wide (L' := [y, bh, bs, bt, bu]) (by simp)).trans (K.wide (L' := [y, bh, bs, bt, bu]) (by simp)) (fun b hb _ => hb))
 clear M
 go_wp2
 go_ret
 exact ⟨by rw [HF.out, HB.out]; rfl, K2.out, fun h => (by rw [HN.out]; exact L2.out)⟩
set_option maxRecDepth 100000 in
set_option maxHeartbeats 1000000 in
theorem next_7 (e : Ev) (l : LayAt w S A c R d y bh bs bt bu n st) (he : e.op = 7) (g0 : ¬ e.who < 0) (g1 : ¬ st.r ≤ e.who) (g4 : 0 ≤ cnt S 7) (g5 : ¬ e.a < 0) (g6 : ¬ cnt S 7 ≤ e.a) (hwf : (Lit.int .i64 e.a).wf = true) (hn : n < 100000) (_hb : ∀ j, 0 ≤ st.sent j ∧ st.sent j ≤ 100000 ∧ 0 ≤ st.took j ∧ st.took j ≤ 100000) (_hr : 0 ≤ st.r ∧ st.r ≤ 100000)  : Calls Try.prog 92 #[.pointer (some ⟨y, 0, none⟩), .agg (evC e)] w (NextPost S A c R d y bh bs bt bu n st e w) := by
 have O := Own.start w []
 have HL := Lib.hid l
 clear l
 have q0 : decide (e.who < 0) = false := decide_eq_false (by omega)
 have q1 : decide (st.r ≤ e.who) = false := decide_eq_false (by omega)
 have HF := Lib.hid (show okE S st e = bodyE st e by simp [okE, headE, he]; omega)
 have HB := Lib.hid (show bodyE st e = true by simp [bodyE, he])
 have HN := Lib.hid (show nextE st e = { st with shut := updI st.shut e.a true } by simp [nextE, he])
 unfold evC
 rw [he]
 go_enter Try.func92, Try.ntmps92
 go_wp2_with (first
   | go_big_skip
   | (refine own_box 3 (#[Value.int .i64 e.who, .int .i64 7, .int .i64 e.a, .int .i64 e.v, .bool e.sh]) O rfl rfl rfl rfl ?_; clear O; intro W a3 O; simp only [Act.put, kA, kZ, kS]))
 have c3 := Later.cell (O.get 0 rfl)
 have cy : ∀ p : Later W, p.1.cell? ⟨y, 5, none⟩ = some (.int .i64 st.r) := fun p => (HL.out.kept (O.keep.trans p.2 (by simp))).y.cell 5
 refine wp_quiet_later (by kernel_rfl) (by kernel_rfl) ?_
 repeat (first | go_big_quiet_skip | go_big_quiet_step (fail))
 refine kq fun p' => ?_
 replace O := O.keeps p'.2
 clear c3 cy
 generalize p'.1 = W at O ⊢
 go_wp2
 have c3 := Later.cell (O.get 0 rfl)
 have cy : ∀ p : Later W, p.1.cell? ⟨y, 5, none⟩ = some (.int .i64 st.r) := fun p => (HL.out.kept (O.keep.trans p.2 (by simp))).y.cell 5
 generalize hcn : cnt S 7 = cn at *
 have HCN : ∀ u, Hid (Calls Try.prog 109 #[.agg (sysV S A c R d), .int .i64 7] u fun e w' => e = .returned (.int .i64 cn) ∧ Keeps u w' []) := fun u => Lib.hid (by rw [← hcn]; exact sharedT_any S A c R d u 7)
 have HCn := Lib.hid hcn
 clear hcn
 refine wp_quiet_later (by kernel_rfl) (by kernel_rfl) ?_
 repeat (first
   | go_big_quiet_skip
   | (refine wpQuiet_load_at (cs := sysV S A c R d) 31 rfl rfl rfl rfl (fun u hu => by obtain ⟨p', rfl⟩ := hu; exact (HL.out.kept (O.keep.trans p'.2 (by simp))).sysAt) Try.underlying27 rfl (by kernel_rfl) ?_; simp only [Act.put, kA, kZ, kS])
   | go_big_quiet_step ((go_at_call 109; exact later_of (HCN _).out)))
 refine kq fun p' => ?_
 replace O := O.keeps p'.2
 clear c3 cy
 generalize p'.1 = W at O ⊢
 have c3 := (O.get 0 rfl).cell
 go_wp2
 clear c3
 have c3 := Later.cell (O.get 0 rfl)
 have cy : ∀ p : Later W, p.1.cell? ⟨y, 9, none⟩ = some (.map (some bu)) := fun p => (HL.out.kept (O.keep.trans p.2 (by simp))).y.cell 9
 refine wp_quiet_tail_later 6 (by kernel_rfl) (by kernel_rfl) ?_
 simp only [List.take, List.drop]
 repeat (first | go_big_quiet_skip | go_big_quiet_step (fail))
 refine kq fun p' => ?_
 replace O := O.keeps p'.2
 clear c3 cy
 generalize p'.1 = W at O ⊢
 refine map_storeB (HL.out.kept O.keep).u 154 Try.underlying154 rfl rfl rfl rfl hwf rfl (by unfold maxLen; omega) ?_
 intro u K M
 have L2 := Lib.hid ((HL.out.kept O.keep).setU K M)
 have K2 := Lib.hid ((O.keep.wide (L' := [y, bh, bs, bt, bu]) (by simp)).trans (K.wide (L' := [y, bh, bs, bt, bu]) (by simp)) (fun b hb _ => hb))
 clear M
 go_wp2
 go_ret
 exact ⟨by rw [HF.out, HB.out]; rfl, K2.out, fun h => (by rw [HN.out]; exact L2.out)⟩
set_option maxRecDepth 100000 in
set_option maxHeartbeats 1000000 in
theorem next_9 (e : Ev) (l : LayAt w S A c R d y bh bs bt bu n st) (he : e.op = 9) (g0 : ¬ e.who < 0) (g1 : ¬ st.r ≤ e.who) (g4 : 0 ≤ cnt S 9) (g5 : ¬ e.a < 0) (g6 : ¬ cnt S 9 ≤ e.a) (hwf : (Lit.int .i64 e.a).wf = true) (hn : n < 100000) (_hb : ∀ j, 0 ≤ st.sent j ∧ st.sent j ≤ 100000 ∧ 0 ≤ st.took j ∧ st.took j ≤ 100000) (_hr : 0 ≤ st.r ∧ st.r ≤ 100000)  : Calls Try.prog 92 #[.pointer (some ⟨y, 0, none⟩), .agg (evC e)] w (NextPost S A c R d y bh bs bt bu n st e w) := by
 have O := Own.start w []
 have HL := Lib.hid l
 clear l
 have q0 : decide (e.who < 0) = false := decide_eq_false (by omega)
 have q1 : decide (st.r ≤ e.who) = false := decide_eq_false (by omega)
 have HF := Lib.hid (show okE S st e = bodyE st e by simp [okE, headE, he]; omega)
 have HB := Lib.hid (show bodyE st e = true by simp [bodyE, he])
 have HN := Lib.hid (show nextE st e = { st with held := updI st.held e.a false } by simp [nextE, he])
 unfold evC
 rw [he]
 go_enter Try.func92, Try.ntmps92
 go_wp2_with (first
   | go_big_skip
   | (refine own_box 3 (#[Value.int .i64 e.who, .int .i64 9, .int .i64 e.a, .int .i64 e.v, .bool e.sh]) O rfl rfl rfl rfl ?_; clear O; intro W a3 O; simp only [Act.put, kA, kZ, kS]))
 have c3 := Later.cell (O.get 0 rfl)
 have cy : ∀ p : Later W, p.1.cell? ⟨y, 5, none⟩ = some (.int .i64 st.r) := fun p => (HL.out.kept (O.keep.trans p.2 (by simp))).y.cell 5
 refine wp_quiet_later (by kernel_rfl) (by kernel_rfl) ?_
 repeat (first | go_big_quiet_skip | go_big_quiet_step (fail))
 refine kq fun p' => ?_
 replace O := O.keeps p'.2
 clear c3 cy
 generalize p'.1 = W at O ⊢
 go_wp2
 have c3 := Later.cell (O.get 0 rfl)
 have cy : ∀ p : Later W, p.1.cell? ⟨y, 5, none⟩ = some (.int .i64 st.r) := fun p => (HL.out.kept (O.keep.trans p.2 (by simp))).y.cell 5
 generalize hcn : cnt S 9 = cn at *
 have HCN : ∀ u, Hid (Calls Try.prog 109 #[.agg (sysV S A c R d), .int .i64 9] u fun e w' => e = .returned (.int .i64 cn) ∧ Keeps u w' []) := fun u => Lib.hid (by rw [← hcn]; exact sharedT_any S A c R d u 9)
 have HCn := Lib.hid hcn
 clear hcn
 refine wp_quiet_later (by kernel_rfl) (by kernel_rfl) ?_
 repeat (first
   | go_big_quiet_skip
   | (refine wpQuiet_load_at (cs := sysV S A c R d) 31 rfl rfl rfl rfl (fun u hu => by obtain ⟨p', rfl⟩ := hu; exact (HL.out.kept (O.keep.trans p'.2 (by simp))).sysAt) Try.underlying27 rfl (by kernel_rfl) ?_; simp only [Act.put, kA, kZ, kS])
   | go_big_quiet_step ((go_at_call 109; exact later_of (HCN _).out)))
 refine kq fun p' => ?_
 replace O := O.keeps p'.2
 clear c3 cy
 generalize p'.1 = W at O ⊢
 have c3 := (O.get 0 rfl).cell
 go_wp2
 clear c3
 have c3 := Later.cell (O.get 0 rfl)
 have cy : ∀ p : Later W, p.1.cell? ⟨y, 6, none⟩ = some (.map (some bh)) := fun p => (HL.out.kept (O.keep.trans p.2 (by simp))).y.cell 6
 refine wp_quiet_tail_later 6 (by kernel_rfl) (by kernel_rfl) ?_
 simp only [List.take, List.drop]
 repeat (first | go_big_quiet_skip | go_big_quiet_step (fail))
 refine kq fun p' => ?_
 replace O := O.keeps p'.2
 clear c3 cy
 generalize p'.1 = W at O ⊢
 refine map_storeB (HL.out.kept O.keep).h 154 Try.underlying154 rfl rfl rfl rfl hwf rfl (by unfold maxLen; omega) ?_
 intro u K M
 have L2 := Lib.hid ((HL.out.kept O.keep).setH K M)
 have K2 := Lib.hid ((O.keep.wide (L' := [y, bh, bs, bt, bu]) (by simp)).trans (K.wide (L' := [y, bh, bs, bt, bu]) (by simp)) (fun b hb _ => hb))
 clear M
 go_wp2
 go_ret
 exact ⟨by rw [HF.out, HB.out]; rfl, K2.out, fun h => (by rw [HN.out]; exact L2.out)⟩
set_option maxRecDepth 100000 in
set_option maxHeartbeats 1000000 in
theorem next_8a (e : Ev) (l : LayAt w S A c R d y bh bs bt bu n st) (he : e.op = 8) (g0 : ¬ e.who < 0) (g1 : ¬ st.r ≤ e.who) (g4 : 0 ≤ cnt S 8) (g5 : ¬ e.a < 0) (g6 : ¬ cnt S 8 ≤ e.a) (hwf : (Lit.int .i64 e.a).wf = true) (_hn : n < 100000) (_hb : ∀ j, 0 ≤ st.sent j ∧ st.sent j ≤ 100000 ∧ 0 ≤ st.took j ∧ st.took j ≤ 100000) (_hr : 0 ≤ st.r ∧ st.r ≤ 100000) (hv : st.held e.a = true) : Calls Try.prog 92 #[.pointer (some ⟨y, 0, none⟩), .agg (evC e)] w (NextPost S A c R d y bh bs bt bu n st e w) := by
 have O := Own.start w []
 have HL := Lib.hid l
 clear l
 have q0 : decide (e.who < 0) = false := decide_eq_false (by omega)
 have q1 : decide (st.r ≤ e.who) = false := decide_eq_false (by omega)
 have HF := Lib.hid (show okE S st e = bodyE st e by simp [okE, headE, he]; omega)
 have HB := Lib.hid (show bodyE st e = false by simp [bodyE, he, hv])
 have HV := Lib.hid hv
 clear hv
 unfold evC
 rw [he]
 go_enter Try.func92, Try.ntmps92
 go_wp2_with (first
   | go_big_skip
   | (refine own_box 3 (#[Value.int .i64 e.who, .int .i64 8, .int .i64 e.a, .int .i64 e.v, .bool e.sh]) O rfl rfl rfl rfl ?_; clear O; intro W a3 O; simp only [Act.put, kA, kZ, kS]))
 have c3 := Later.cell (O.get 0 rfl)
 have cy : ∀ p : Later W, p.1.cell? ⟨y, 5, none⟩ = some (.int .i64 st.r) := fun p => (HL.out.kept (O.keep.trans p.2 (by simp))).y.cell 5
 refine wp_quiet_later (by kernel_rfl) (by kernel_rfl) ?_
 repeat (first | go_big_quiet_skip | go_big_quiet_step (fail))
 refine kq fun p' => ?_
 replace O := O.keeps p'.2
 clear c3 cy
 generalize p'.1 = W at O ⊢
 go_wp2
 have c3 := Later.cell (O.get 0 rfl)
 have cy : ∀ p : Later W, p.1.cell? ⟨y, 5, none⟩ = some (.int .i64 st.r) := fun p => (HL.out.kept (O.keep.trans p.2 (by simp))).y.cell 5
 generalize hcn : cnt S 8 = cn at *
 have HCN : ∀ u, Hid (Calls Try.prog 109 #[.agg (sysV S A c R d), .int .i64 8] u fun e w' => e = .returned (.int .i64 cn) ∧ Keeps u w' []) := fun u => Lib.hid (by rw [← hcn]; exact sharedT_any S A c R d u 8)
 have HCn := Lib.hid hcn
 clear hcn
 refine wp_quiet_later (by kernel_rfl) (by kernel_rfl) ?_
 repeat (first
   | go_big_quiet_skip
   | (refine wpQuiet_load_at (cs := sysV S A c R d) 31 rfl rfl rfl rfl (fun u hu => by obtain ⟨p', rfl⟩ := hu; exact (HL.out.kept (O.keep.trans p'.2 (by simp))).sysAt) Try.underlying27 rfl (by kernel_rfl) ?_; simp only [Act.put, kA, kZ, kS])
   | go_big_quiet_step ((go_at_call 109; exact later_of (HCN _).out)))
 refine kq fun p' => ?_
 replace O := O.keeps p'.2
 clear c3 cy
 generalize p'.1 = W at O ⊢
 have c3 := (O.get 0 rfl).cell
 go_wp2
 clear c3
 have c3 := Later.cell (O.get 0 rfl)
 have cy : ∀ p : Later W, p.1.cell? ⟨y, 6, none⟩ = some (.map (some bh)) := fun p => (HL.out.kept (O.keep.trans p.2 (by simp))).y.cell 6
 have lk : ∀ p : Later W, (Instr.lookup 154 (.map (some bh)) (.int .i64 e.a) false).run Try.prog p.1 = .ok (.bool true) p.1 := fun p => by have := look_eqB (HL.out.kept (O.keep.trans p.2 (by simp))).h 154 Try.underlying154 e.a hwf; rwa [HV.out] at this
 refine wp_quiet_later (by kernel_rfl) (by kernel_rfl) ?_
 repeat (first | go_big_quiet_skip | go_big_quiet_step (fail))
 refine kq fun p' => ?_
 replace O := O.keeps p'.2
 clear c3 cy lk
 generalize p'.1 = W at O ⊢
 go_wp2
 go_ret
 exact ⟨by rw [HF.out, HB.out]; rfl, O.keep.wide (by simp), fun h => (by rw [HF.out, HB.out] at h; cases h)⟩
set_option maxRecDepth 100000 in
set_option maxHeartbeats 1000000 in
theorem next_8b (e : Ev) (l : LayAt w S A c R d y bh bs bt bu n st) (he : e.op = 8) (g0 : ¬ e.who < 0) (g1 : ¬ st.r ≤ e.who) (g4 : 0 ≤ cnt S 8) (g5 : ¬ e.a < 0) (g6 : ¬ cnt S 8 ≤ e.a) (hwf : (Lit.int .i64 e.a).wf = true) (hn : n < 100000) (_hb : ∀ j, 0 ≤ st.sent j ∧ st.sent j ≤ 100000 ∧ 0 ≤ st.took j ∧ st.took j ≤ 100000) (_hr : 0 ≤ st.r ∧ st.r ≤ 100000) (hv : st.held e.a = false) : Calls Try.prog 92 #[.pointer (some ⟨y, 0, none⟩), .agg (evC e)] w (NextPost S A c R d y bh bs bt bu n st e w) := by
 have O := Own.start w []
 have HL := Lib.hid l
 clear l
 have q0 : decide (e.who < 0) = false := decide_eq_false (by omega)
 have q1 : decide (st.r ≤ e.who) = false := decide_eq_false (by omega)
 have HF := Lib.hid (show okE S st e = bodyE st e by simp [okE, headE, he]; omega)
 have HB := Lib.hid (show bodyE st e = true by simp [bodyE, he, hv])
 have HN := Lib.hid (show nextE st e = { st with held := updI st.held e.a true } by simp [nextE, he])
 have HV := Lib.hid hv
 clear hv
 unfold evC
 rw [he]
 go_enter Try.func92, Try.ntmps92
 go_wp2_with (first
   | go_big_skip
   | (refine own_box 3 (#[Value.int .i64 e.who, .int .i64 8, .int .i64 e.a, .int .i64 e.v, .bool e.sh]) O rfl rfl rfl rfl ?_; clear O; intro W a3 O; simp only [Act.put, kA, kZ, kS]))
 have c3 := Later.cell (O.get 0 rfl)
 have cy : ∀ p : Later W, p.1.cell? ⟨y, 5, none⟩ = some (.int .i64 st.r) := fun p => (HL.out.kept (O.keep.trans p.2 (by simp))).y.cell 5
 refine wp_quiet_later (by kernel_rfl) (by kernel_rfl) ?_
 repeat (first | go_big_quiet_skip | go_big_quiet_step (fail))
 refine kq fun p' => ?_
 replace O := O.keeps p'.2
 clear c3 cy
 generalize p'.1 = W at O ⊢
 go_wp2
 have c3 := Later.cell (O.get 0 rfl)
 have cy : ∀ p : Later W, p.1.cell? ⟨y, 5, none⟩ = some (.int .i64 st.r) := fun p => (HL.out.kept (O.keep.trans p.2 (by simp))).y.cell 5
 generalize hcn : cnt S 8 = cn at *
 have HCN : ∀ u, Hid (Calls Try.prog 109 #[.agg (sysV S A c R d), .int .i64 8] u fun e w' => e = .returned (.int .i64 cn) ∧ Keeps u w' []) := fun u => Lib.hid (by rw [← hcn]; exact sharedT_any S A c R d u 8)
 have HCn := Lib.hid hcn
 clear hcn
 refine wp_quiet_later (by kernel_rfl) (by kernel_rfl) ?_
 repeat (first
   | go_big_quiet_skip
   | (refine wpQuiet_load_at (cs := sysV S A c R d) 31 rfl rfl rfl rfl (fun u hu => by obtain ⟨p', rfl⟩ := hu; exact (HL.out.kept (O.keep.trans p'.2 (by simp))).sysAt) Try.underlying27 rfl (by kernel_rfl) ?_; simp only [Act.put, kA, kZ, kS])
   | go_big_quiet_step ((go_at_call 109; exact later_of (HCN _).out)))
 refine kq fun p' => ?_
 replace O := O.keeps p'.2
 clear c3 cy
 generalize p'.1 = W at O ⊢
 have c3 := (O.get 0 rfl).cell
 go_wp2
 clear c3
 have c3 := Later.cell (O.get 0 rfl)
 have cy : ∀ p : Later W, p.1.cell? ⟨y, 6, none⟩ = some (.map (some bh)) := fun p => (HL.out.kept (O.keep.trans p.2 (by simp))).y.cell 6
 have lk : ∀ p : Later W, (Instr.lookup 154 (.map (some bh)) (.int .i64 e.a) false).run Try.prog p.1 = .ok (.bool false) p.1 := fun p => by have := look_eqB (HL.out.kept (O.keep.trans p.2 (by simp))).h 154 Try.underlying154 e.a hwf; rwa [HV.out] at this
 refine wp_quiet_later (by kernel_rfl) (by kernel_rfl) ?_
 repeat (first | go_big_quiet_skip | go_big_quiet_step (fail))
 refine kq fun p' => ?_
 replace O := O.keeps p'.2
 clear c3 cy lk
 generalize p'.1 = W at O ⊢
 have c3 := (O.get 0 rfl).cell
 go_wp2
 clear c3
 have c3 := Later.cell (O.get 0 rfl)
 have cy : ∀ p : Later W, p.1.cell? ⟨y, 6, none⟩ = some (.map (some bh)) := fun p => (HL.out.kept (O.keep.trans p.2 (by simp))).y.cell 6
 refine wp_quiet_tail_later 6 (by kernel_rfl) (by kernel_rfl) ?_
 simp only [List.take, List.drop]
 repeat (first | go_big_quiet_skip | go_big_quiet_step (fail))
 refine kq fun p' => ?_
 replace O := O.keeps p'.2
 clear c3 cy
 generalize p'.1 = W at O ⊢
 refine map_storeB (HL.out.kept O.keep).h 154 Try.underlying154 rfl rfl rfl rfl hwf rfl (by unfold maxLen; omega) ?_
 intro u K M
 have L2 := Lib.hid ((HL.out.kept O.keep).setH K M)
 have K2 := Lib.hid ((O.keep.wide (L' := [y, bh, bs, bt, bu]) (by simp)).trans (K.wide (L' := [y, bh, bs, bt, bu]) (by simp)) (fun b hb _ => hb))
 clear M
 go_wp2
 go_ret
 exact ⟨by rw [HF.out, HB.out]; rfl, K2.out, fun h => (by rw [HN.out]; exact L2.out)⟩
set_option maxRecDepth 100000 in
set_option maxHeartbeats 1000000 in
theorem next_6s (e : Ev) (l : LayAt w S A c R d y bh bs bt bu n st) (he : e.op = 6) (g0 : ¬ e.who < 0) (g1 : ¬ st.r ≤ e.who) (g4 : 0 ≤ cnt S 6) (g5 : ¬ e.a < 0) (g6 : ¬ cnt S 6 ≤ e.a) (hwf : (Lit.int .i64 e.a).wf = true) (_hn : n < 100000) (_hb : ∀ j, 0 ≤ st.sent j ∧ st.sent j ≤ 100000 ∧ 0 ≤ st.took j ∧ st.took j ≤ 100000) (_hr : 0 ≤ st.r ∧ st.r ≤ 100000) (hs : e.sh = true) : Calls Try.prog 92 #[.pointer (some ⟨y, 0, none⟩), .agg (evC e)] w (NextPost S A c R d y bh bs bt bu n st e w) := by
 have O := Own.start w []
 have HL := Lib.hid l
 clear l
 have q0 : decide (e.who < 0) = false := decide_eq_false (by omega)
 have q1 : decide (st.r ≤ e.who) = false := decide_eq_false (by omega)
 have HF := Lib.hid (show okE S st e = bodyE st e by simp [okE, headE, he]; omega)
 have HB := Lib.hid (show bodyE st e = st.shut e.a by simp [bodyE, he, hs])
 have HN := Lib.hid (show nextE st e = st by simp [nextE, he, hs])
 unfold evC
 rw [he, hs]
 go_enter Try.func92, Try.ntmps92
 go_wp2_with (first
   | go_big_skip
   | (refine own_box 3 (#[Value.int .i64 e.who, .int .i64 6, .int .i64 e.a, .int .i64 e.v, .bool true]) O rfl rfl rfl rfl ?_; clear O; intro W a3 O; simp only [Act.put, kA, kZ, kS]))
 have c3 := Later.cell (O.get 0 rfl)
 have cy : ∀ p : Later W, p.1.cell? ⟨y, 5, none⟩ = some (.int .i64 st.r) := fun p => (HL.out.kept (O.keep.trans p.2 (by simp))).y.cell 5
 refine wp_quiet_later (by kernel_rfl) (by kernel_rfl) ?_
 repeat (first | go_big_quiet_skip | go_big_quiet_step (fail))
 refine kq fun p' => ?_
 replace O := O.keeps p'.2
 clear c3 cy
 generalize p'.1 = W at O ⊢
 go_wp2
 have c3 := Later.cell (O.get 0 rfl)
 have cy : ∀ p : Later W, p.1.cell? ⟨y, 5, none⟩ = some (.int .i64 st.r) := fun p => (HL.out.kept (O.keep.trans p.2 (by simp))).y.cell 5
 generalize hcn : cnt S 6 = cn at *
 have HCN : ∀ u, Hid (Calls Try.prog 109 #[.agg (sysV S A c R d), .int .i64 6] u fun e w' => e = .returned (.int .i64 cn) ∧ Keeps u w' []) := fun u => Lib.hid (by rw [← hcn]; exact sharedT_any S A c R d u 6)
 have HCn := Lib.hid hcn
 clear hcn
 refine wp_quiet_later (by kernel_rfl) (by kernel_rfl) ?_
 repeat (first
   | go_big_quiet_skip
   | (refine wpQuiet_load_at (cs := sysV S A c R d) 31 rfl rfl rfl rfl (fun u hu => by obtain ⟨p', rfl⟩ := hu; exact (HL.out.kept (O.keep.trans p'.2 (by simp))).sysAt) Try.underlying27 rfl (by kernel_rfl) ?_; simp only [Act.put, kA, kZ, kS])
   | go_big_quiet_step ((go_at_call 109; exact later_of (HCN _).out)))
 refine kq fun p' => ?_
 replace O := O.keeps p'.2
 clear c3 cy
 generalize p'.1 = W at O ⊢
 have c3 := (O.get 0 rfl).cell
 go_wp2
 clear c3
 have c3 := Later.cell (O.get 0 rfl)
 have cy : ∀ p : Later W, p.1.cell? ⟨y, 9, none⟩ = some (.map (some bu)) := fun p => (HL.out.kept (O.keep.trans p.2 (by simp))).y.cell 9
 have lk : ∀ p : Later W, (Instr.lookup 154 (.map (some bu)) (.int .i64 e.a) false).run Try.prog p.1 = .ok (.bool (st.shut e.a)) p.1 := fun p => by have := look_eqB (HL.out.kept (O.keep.trans p.2 (by simp))).u 154 Try.underlying154 e.a hwf; exact this
 refine wp_quiet_later (by kernel_rfl) (by kernel_rfl) ?_
 repeat (first | go_big_quiet_skip | go_big_quiet_step (fail))
 refine kq fun p' => ?_
 replace O := O.keeps p'.2
 clear c3 cy lk
 generalize p'.1 = W at O ⊢
 go_wp2
 go_ret
 exact ⟨by rw [HF.out, HB.out]; rfl, O.keep.wide (by simp), fun h => (by rw [HN.out]; exact (HL.out.kept O.keep).mono (by omega))⟩
set_option maxRecDepth 100000 in
set_option maxHeartbeats 1000000 in
theorem next_6t (e : Ev) (l : LayAt w S A c R d y bh bs bt bu n st) (he : e.op = 6) (g0 : ¬ e.who < 0) (g1 : ¬ st.r ≤ e.who) (g4 : 0 ≤ cnt S 6) (g5 : ¬ e.a < 0) (g6 : ¬ cnt S 6 ≤ e.a) (hwf : (Lit.int .i64 e.a).wf = true) (hn : n < 100000) (hb : ∀ j, 0 ≤ st.sent j ∧ st.sent j ≤ 100000 ∧ 0 ≤ st.took j ∧ st.took j ≤ 100000) (_hr : 0 ≤ st.r ∧ st.r ≤ 100000) (hs : e.sh = false) : Calls Try.prog 92 #[.pointer (some ⟨y, 0, none⟩), .agg (evC e)] w (NextPost S A c R d y bh bs bt bu n st e w) := by
 have O := Own.start w []
 have HL := Lib.hid l
 clear l
 have q0 : decide (e.who < 0) = false := decide_eq_false (by omega)
 have q1 : decide (st.r ≤ e.who) = false := decide_eq_false (by omega)
 have HF := Lib.hid (show okE S st e = bodyE st e by simp [okE, headE, he]; omega)
 have HB := Lib.hid (show bodyE st e = decide (st.took e.a + 1 ≤ st.sent e.a) by simp [bodyE, he, hs])
 have HN := Lib.hid (show nextE st e = { st with took := updI st.took e.a (st.took e.a + 1) } by simp [nextE, he, hs])
 have r1 : IntKind.i64.wrap (st.took e.a + 1) = st.took e.a + 1 := IntWalk.i64_in _ (by have := hb e.a; omega)
 unfold evC
 rw [he, hs]
 go_enter Try.func92, Try.ntmps92
 go_wp2_with (first
   | go_big_skip
   | (refine own_box 3 (#[Value.int .i64 e.who, .int .i64 6, .int .i64 e.a, .int .i64 e.v, .bool false]) O rfl rfl rfl rfl ?_; clear O; intro W a3 O; simp only [Act.put, kA, kZ, kS]))
 have c3 := Later.cell (O.get 0 rfl)
 have cy : ∀ p : Later W, p.1.cell? ⟨y, 5, none⟩ = some (.int .i64 st.r) := fun p => (HL.out.kept (O.keep.trans p.2 (by simp))).y.cell 5
 refine wp_quiet_later (by kernel_rfl) (by kernel_rfl) ?_
 repeat (first | go_big_quiet_skip | go_big_quiet_step (fail))
 refine kq fun p' => ?_
 replace O := O.keeps p'.2
 clear c3 cy
 generalize p'.1 = W at O ⊢
 go_wp2
 have c3 := Later.cell (O.get 0 rfl)
 have cy : ∀ p : Later W, p.1.cell? ⟨y, 5, none⟩ = some (.int .i64 st.r) := fun p => (HL.out.kept (O.keep.trans p.2 (by simp))).y.cell 5
 generalize hcn : cnt S 6 = cn at *
 have HCN : ∀ u, Hid (Calls Try.prog 109 #[.agg (sysV S A c R d), .int .i64 6] u fun e w' => e = .returned (.int .i64 cn) ∧ Keeps u w' []) := fun u => Lib.hid (by rw [← hcn]; exact sharedT_any S A c R d u 6)
 have HCn := Lib.hid hcn
 clear hcn
 refine wp_quiet_later (by kernel_rfl) (by kernel_rfl) ?_
 repeat (first
   | go_big_quiet_skip
   | (refine wpQuiet_load_at (cs := sysV S A c R d) 31 rfl rfl rfl rfl (fun u hu => by obtain ⟨p', rfl⟩ := hu; exact (HL.out.kept (O.keep.trans p'.2 (by simp))).sysAt) Try.underlying27 rfl (by kernel_rfl) ?_; simp only [Act.put, kA, kZ, kS])
   | go_big_quiet_step ((go_at_call 109; exact later_of (HCN _).out)))
 refine kq fun p' => ?_
 replace O := O.keeps p'.2
 clear c3 cy
 generalize p'.1 = W at O ⊢
 have c3 := (O.get 0 rfl).cell
 go_wp2
 clear c3
 have c3 := Later.cell (O.get 0 rfl)
 have cy : ∀ p : Later W, p.1.cell? ⟨y, 8, none⟩ = some (.map (some bt)) := fun p => (HL.out.kept (O.keep.trans p.2 (by simp))).y.cell 8
 have lk : ∀ p : Later W, (Instr.lookup 117 (.map (some bt)) (.int .i64 e.a) false).run Try.prog p.1 = .ok (.int .i64 (st.took e.a)) p.1 := fun p => look_eqI (HL.out.kept (O.keep.trans p.2 (by simp))).t 117 Try.underlying117 e.a hwf
 refine wp_quiet_tail_later 8 (by kernel_rfl) (by kernel_rfl) ?_
 simp only [List.take, List.drop]
 repeat (first | go_big_quiet_skip | go_big_quiet_step (fail))
 refine kq fun p' => ?_
 replace O := O.keeps p'.2
 clear c3 cy lk
 generalize p'.1 = W at O ⊢
 refine map_storeI (HL.out.kept O.keep).t 117 Try.underlying117 rfl rfl rfl rfl hwf rfl (WalkArith.wf_i64 (by have := hb e.a; omega)) (by unfold maxLen; omega) ?_
 intro u K M
 simp only [Act.put]
 have B3 := (O.get 0 rfl).keeps K (by simpa using (HL.out.kept O.keep).t.not_blk (O.get 0 rfl))
 have L2 := Lib.hid ((HL.out.kept O.keep).setT K M)
 have K2 := Lib.hid ((O.keep.wide (L' := [y, bh, bs, bt, bu]) (by simp)).trans (K.wide (L' := [y, bh, bs, bt, bu]) (by simp)) (fun b hb _ => hb))
 clear M
 go_wp2
 have c3 := Later.cell B3
 have cy1 : ∀ p : Later u, p.1.cell? ⟨y, 8, none⟩ = some (.map (some bt)) := fun p => (L2.out.kept p.2).y.cell 8
 have cy2 : ∀ p : Later u, p.1.cell? ⟨y, 7, none⟩ = some (.map (some bs)) := fun p => (L2.out.kept p.2).y.cell 7
 have lk1 : ∀ p : Later u, (Instr.lookup 117 (.map (some bt)) (.int .i64 e.a) false).run Try.prog p.1 = .ok (.int .i64 (st.took e.a + 1)) p.1 := fun p => by simpa using look_eqI (L2.out.kept p.2).t 117 Try.underlying117 e.a hwf
 have lk2 : ∀ p : Later u, (Instr.lookup 117 (.map (some bs)) (.int .i64 e.a) false).run Try.prog p.1 = .ok (.int .i64 (st.sent e.a)) p.1 := fun p => look_eqI (L2.out.kept p.2).s 117 Try.underlying117 e.a hwf
 refine wp_quiet_later (by kernel_rfl) (by kernel_rfl) ?_
 repeat (first | go_big_quiet_skip | go_big_quiet_step (fail))
 refine kq fun p' => ?_
 have K3 := Lib.hid (K2.out.trans p'.2 (by simp))
 have L3 := Lib.hid (L2.out.kept p'.2)
 clear c3 cy1 cy2 lk1 lk2 L2 K2
 generalize p'.1 = W3 at K3 L3 ⊢
 go_wp2
 go_ret
 exact ⟨by rw [HF.out, HB.out]; rfl, K3.out, fun _ => by rw [HN.out]; exact L3.out⟩
set_option maxRecDepth 100000 in
set_option maxHeartbeats 1000000 in
theorem next_o0 (e : Ev) (l : LayAt w S A c R d y bh bs bt bu n st) (g0 : ¬ e.who < 0) (g1 : ¬ st.r ≤ e.who) (g2 : ¬ e.op < 1) (g3 : ¬ 16 < e.op) (g4 : cnt S e.op < 0) (_hwf : (Lit.int .i64 e.a).wf = true) (_hn : n < 100000) (_hb : ∀ j, 0 ≤ st.sent j ∧ st.sent j ≤ 100000 ∧ 0 ≤ st.took j ∧ st.took j ≤ 100000) (_hr : 0 ≤ st.r ∧ st.r ≤ 100000) (h5 : ¬ e.op = 5) (h6 : ¬ e.op = 6) (h7 : ¬ e.op = 7) (h8 : ¬ e.op = 8) (h9 : ¬ e.op = 9) (h14 : ¬ e.op = 14) : Calls Try.prog 92 #[.pointer (some ⟨y, 0, none⟩), .agg (evC e)] w (NextPost S A c R d y bh bs bt bu n st e w) := by
 have O := Own.start w []
 have HL := Lib.hid l
 clear l
 have q0 : decide (e.who < 0) = false := decide_eq_false (by omega)
 have q1 : decide (st.r ≤ e.who) = false := decide_eq_false (by omega)
 have q2 : decide (e.op < 1) = false := decide_eq_false (by omega)
 have q3 : decide (16 < e.op) = false := decide_eq_false (by omega)
 have HF := Lib.hid (show okE S st e = bodyE st e by simp [okE, headE]; omega)
 have HB := Lib.hid (show bodyE st e = true by simp [bodyE, h6, h8, h14])
 have HN := Lib.hid (show nextE st e = st by simp [nextE, h5, h6, h7, h8, h9, h14])
 unfold evC

 go_enter Try.func92, Try.ntmps92
 go_wp2_with (first
   | go_big_skip
   | (refine own_box 3 (#[Value.int .i64 e.who, .int .i64 e.op, .int .i64 e.a, .int .i64 e.v, .bool e.sh]) O rfl rfl rfl rfl ?_; clear O; intro W a3 O; simp only [Act.put, kA, kZ, kS]))
 have c3 := Later.cell (O.get 0 rfl)
 have cy : ∀ p : Later W, p.1.cell? ⟨y, 5, none⟩ = some (.int .i64 st.r) := fun p => (HL.out.kept (O.keep.trans p.2 (by simp))).y.cell 5
 refine wp_quiet_later (by kernel_rfl) (by kernel_rfl) ?_
 repeat (first | go_big_quiet_skip | go_big_quiet_step (fail))
 refine kq fun p' => ?_
 replace O := O.keeps p'.2
 clear c3 cy
 generalize p'.1 = W at O ⊢
 go_wp2
 have c3 := Later.cell (O.get 0 rfl)
 have cy : ∀ p : Later W, p.1.cell? ⟨y, 5, none⟩ = some (.int .i64 st.r) := fun p => (HL.out.kept (O.keep.trans p.2 (by simp))).y.cell 5
 generalize hcn : cnt S e.op = cn at *
 have HCN : ∀ u, Hid (Calls Try.prog 109 #[.agg (sysV S A c R d), .int .i64 e.op] u fun e w' => e = .returned (.int .i64 cn) ∧ Keeps u w' []) := fun u => Lib.hid (by rw [← hcn]; exact sharedT_any S A c R d u e.op)
 have HCn := Lib.hid hcn
 clear hcn
 refine wp_quiet_later (by kernel_rfl) (by kernel_rfl) ?_
 repeat (first
   | go_big_quiet_skip
   | (refine wpQuiet_load_at (cs := sysV S A c R d) 31 rfl rfl rfl rfl (fun u hu => by obtain ⟨p', rfl⟩ := hu; exact (HL.out.kept (O.keep.trans p'.2 (by simp))).sysAt) Try.underlying27 rfl (by kernel_rfl) ?_; simp only [Act.put, kA, kZ, kS])
   | go_big_quiet_step ((go_at_call 109; exact later_of (HCN _).out)))
 refine kq fun p' => ?_
 replace O := O.keeps p'.2
 clear c3 cy
 generalize p'.1 = W at O ⊢
 have c3 := (O.get 0 rfl).cell
 go_wp2
 go_ret
 exact ⟨by rw [HF.out, HB.out]; rfl, O.keep.wide (by simp), fun h => (by rw [HN.out]; exact (HL.out.kept O.keep).mono (by omega))⟩
set_option maxRecDepth 100000 in
set_option maxHeartbeats 1000000 in
theorem next_o1 (e : Ev) (l : LayAt w S A c R d y bh bs bt bu n st) (g0 : ¬ e.who < 0) (g1 : ¬ st.r ≤ e.who) (g2 : ¬ e.op < 1) (g3 : ¬ 16 < e.op) (g4 : 0 ≤ cnt S e.op) (g5 : ¬ e.a < 0) (g6 : ¬ cnt S e.op ≤ e.a) (_hwf : (Lit.int .i64 e.a).wf = true) (_hn : n < 100000) (_hb : ∀ j, 0 ≤ st.sent j ∧ st.sent j ≤ 100000 ∧ 0 ≤ st.took j ∧ st.took j ≤ 100000) (_hr : 0 ≤ st.r ∧ st.r ≤ 100000) (h5 : ¬ e.op = 5) (h6 : ¬ e.op = 6) (h7 : ¬ e.op = 7) (h8 : ¬ e.op = 8) (h9 : ¬ e.op = 9) (h14 : ¬ e.op = 14) : Calls Try.prog 92 #[.pointer (some ⟨y, 0, none⟩), .agg (evC e)] w (NextPost S A c R d y bh bs bt bu n st e w) := by
 have O := Own.start w []
 have HL := Lib.hid l
 clear l
 have q0 : decide (e.who < 0) = false := decide_eq_false (by omega)
 have q1 : decide (st.r ≤ e.who) = false := decide_eq_false (by omega)
 have q2 : decide (e.op < 1) = false := decide_eq_false (by omega)
 have q3 : decide (16 < e.op) = false := decide_eq_false (by omega)
 have HF := Lib.hid (show okE S st e = bodyE st e by simp [okE, headE]; omega)
 have HB := Lib.hid (show bodyE st e = true by simp [bodyE, h6, h8, h14])
 have HN := Lib.hid (show nextE st e = st by simp [nextE, h5, h6, h7, h8, h9, h14])
 unfold evC

 go_enter Try.func92, Try.ntmps92
 go_wp2_with (first
   | go_big_skip
   | (refine own_box 3 (#[Value.int .i64 e.who, .int .i64 e.op, .int .i64 e.a, .int .i64 e.v, .bool e.sh]) O rfl rfl rfl rfl ?_; clear O; intro W a3 O; simp only [Act.put, kA, kZ, kS]))
 have c3 := Later.cell (O.get 0 rfl)
 have cy : ∀ p : Later W, p.1.cell? ⟨y, 5, none⟩ = some (.int .i64 st.r) := fun p => (HL.out.kept (O.keep.trans p.2 (by simp))).y.cell 5
 refine wp_quiet_later (by kernel_rfl) (by kernel_rfl) ?_
 repeat (first | go_big_quiet_skip | go_big_quiet_step (fail))
 refine kq fun p' => ?_
 replace O := O.keeps p'.2
 clear c3 cy
 generalize p'.1 = W at O ⊢
 go_wp2
 have c3 := Later.cell (O.get 0 rfl)
 have cy : ∀ p : Later W, p.1.cell? ⟨y, 5, none⟩ = some (.int .i64 st.r) := fun p => (HL.out.kept (O.keep.trans p.2 (by simp))).y.cell 5
 generalize hcn : cnt S e.op = cn at *
 have HCN : ∀ u, Hid (Calls Try.prog 109 #[.agg (sysV S A c R d), .int .i64 e.op] u fun e w' => e = .returned (.int .i64 cn) ∧ Keeps u w' []) := fun u => Lib.hid (by rw [← hcn]; exact sharedT_any S A c R d u e.op)
 have HCn := Lib.hid hcn
 clear hcn
 refine wp_quiet_later (by kernel_rfl) (by kernel_rfl) ?_
 repeat (first
   | go_big_quiet_skip
   | (refine wpQuiet_load_at (cs := sysV S A c R d) 31 rfl rfl rfl rfl (fun u hu => by obtain ⟨p', rfl⟩ := hu; exact (HL.out.kept (O.keep.trans p'.2 (by simp))).sysAt) Try.underlying27 rfl (by kernel_rfl) ?_; simp only [Act.put, kA, kZ, kS])
   | go_big_quiet_step ((go_at_call 109; exact later_of (HCN _).out)))
 refine kq fun p' => ?_
 replace O := O.keeps p'.2
 clear c3 cy
 generalize p'.1 = W at O ⊢
 have c3 := (O.get 0 rfl).cell
 go_wp2
 go_ret
 exact ⟨by rw [HF.out, HB.out]; rfl, O.keep.wide (by simp), fun h => (by rw [HN.out]; exact (HL.out.kept O.keep).mono (by omega))⟩
theorem next_any (hh : headB S = true) (e : Ev) (l : LayAt w S A c R d y bh bs bt bu n st) (hwf : (Lit.int .i64 e.a).wf = true) (hn : n < 100000) (hb : ∀ j, 0 ≤ st.sent j ∧ st.sent j ≤ 100000 ∧ 0 ≤ st.took j ∧ st.took j ≤ 100000) (hr : 0 ≤ st.r ∧ st.r ≤ 100000) :
   Calls Try.prog 92 #[.pointer (some ⟨y, 0, none⟩), .agg (evC e)] w (NextPost S A c R d y bh bs bt bu n st e w) := by
 obtain ⟨h0, h1, h2, h3, h4, h5⟩ := (headB_iff S).1 hh
 rw [shB_iff] at h3 h4 h5
 by_cases g0 : e.who < 0
 · exact next_bad0 e l g0
 by_cases g1 : st.r ≤ e.who
 · exact next_bad1 e l g0 g1
 by_cases g2 : e.op < 1
 · exact next_bad2 e l g0 g1 g2
 by_cases g3 : 16 < e.op
 · exact next_bad3 e l g0 g1 g2 g3
 by_cases g4 : cnt S e.op < 0
 · exact next_o0 e l g0 g1 g2 g3 g4 hwf hn hb hr (fun h => by rw [h] at g4; simp [cnt] at g4; omega) (fun h => by rw [h] at g4; simp [cnt] at g4; omega) (fun h => by rw [h] at g4; simp [cnt] at g4; omega) (fun h => by rw [h] at g4; simp [cnt] at g4; omega) (fun h => by rw [h] at g4; simp [cnt] at g4; omega) (fun h => by rw [h] at g4; simp [cnt] at g4; omega)
 by_cases g5 : e.a < 0
 · exact next_bada0 e l g0 g1 g2 g3 (by omega) g5
 by_cases g6 : cnt S e.op ≤ e.a
 · exact next_bada1 e l g0 g1 g2 g3 (by omega) g5 g6
 by_cases o5 : e.op = 5
 · rw [o5] at g4 g6; exact next_5 e l o5 g0 g1 (by omega) g5 g6 hwf hn hb hr
 by_cases o6 : e.op = 6
 · rw [o6] at g4 g6
   cases hs : e.sh with
   | true => exact next_6s e l o6 g0 g1 (by omega) g5 g6 hwf hn hb hr hs
   | false => exact next_6t e l o6 g0 g1 (by omega) g5 g6 hwf hn hb hr hs
 by_cases o7 : e.op = 7
 · rw [o7] at g4 g6; exact next_7 e l o7 g0 g1 (by omega) g5 g6 hwf hn hb hr
 by_cases o8 : e.op = 8
 · rw [o8] at g4 g6
   cases hs : st.held e.a with
   | true => exact next_8a e l o8 g0 g1 (by omega) g5 g6 hwf hn hb hr hs
   | false => exact next_8b e l o8 g0 g1 (by omega) g5 g6 hwf hn hb hr hs
 by_cases o9 : e.op = 9
 · rw [o9] at g4 g6; exact next_9 e l o9 g0 g1 (by omega) g5 g6 hwf hn hb hr
 by_cases o14 : e.op = 14
 · rw [o14] at g4 g6
   by_cases v0 : e.v = 0
   · exact next_14a e l o14 g0 g1 (by omega) g5 g6 hwf hn hb hr v0
   by_cases v1 : e.v = st.r
   · by_cases v2 : 512 ≤ st.r
     · exact next_14c e l o14 g0 g1 (by omega) g5 g6 hwf hn hb hr v0 v1 v2
     · exact next_14d e l o14 g0 g1 (by omega) g5 g6 hwf hn hb hr v0 v1 v2
   · exact next_14b e l o14 g0 g1 (by omega) g5 g6 hwf hn hb hr v0 v1
 exact next_o1 e l g0 g1 g2 g3 (by omega) g5 g6 hwf hn hb hr o5 o6 o7 o8 o9 o14
end
open Go.RowKit Go.Maps
section
variable {ops : Array Oper} {rest : List Oper} {o : Oper} {a : Act} {w W : World} {Q : Exit → Act → World → Prop} {S : List Nat} {L : List Ent} {T : TypeId}
theorem own_makeMap (d : Nat) (O : Own w W S L) (_hd : o.dst = some d) (hgd : o.guard = none) (ho : o.op = .makeMap T none)
   (h : ∀ u b, Own w u S L → Keeps W u [] → MapB u b 0 (fun _ => false) → MapI u b 0 (fun _ => 0) → W.heap.size ≤ b → wpList Try.prog ops Q rest (a.put o.dst (.map (some b))) u) : wpList Try.prog ops Q (o :: rest) a W := by
 refine wpList_plain hgd fun K hK => ?_
 have k := (Keeps.refl W []).alloc (.map #[] 0)
 unfold Oper.wp execOp
 simp only [ho, Sem.run_bind, Sem.run_pure]
 exact hK _ _ (h _ _ (O.keeps k) k (MapB.made W) (MapI.made W) (Nat.le_refl _))
end
theorem layV_cell (S : Sys) (A : Option Addr) (c : Nat) (R : Option Addr) (d : Nat) (r : Int) (bh bs bt bu : Nat) : ∀ v ∈ (layV S A c R d r bh bs bt bu).toList, v.oneCell' = true := by
 intro v hv
 simp only [layV, List.mem_cons, List.not_mem_nil, or_false] at hv
 rcases hv with rfl | rfl | rfl | rfl | rfl | rfl | rfl | rfl | rfl | rfl <;> rfl
def firstBad (S : Sys) (E : Nat → Ev) (n : Nat) : Option Nat := (List.range n).find? fun j => !okE S (stN E j) (E j)
theorem firstBad_none {S : Sys} {E : Nat → Ev} {n : Nat} (h : ∀ j, j < n → okE S (stN E j) (E j) = true) : firstBad S E n = none := by
 unfold firstBad
 rw [List.find?_eq_none]
 intro x hx
 simp [h x (List.mem_range.1 hx)]
theorem firstBad_some {S : Sys} {E : Nat → Ev} {n k : Nat} (h : ∀ j, j < k → okE S (stN E j) (E j) = true) (hk : k < n) (hb : okE S (stN E k) (E k) = false) : firstBad S E n = some k := by
 unfold firstBad
 rw [List.find?_range_eq_some]
 exact ⟨by simp [hb], List.mem_range.2 hk, fun j hj => by simp [h j hj]⟩
def thr (S : Sys) (E : Nat → Ev) (n : Nat) : Int × Int × Int :=
 if validB S then (if 40000 < n then (0, 0, 2) else match firstBad S E n with | some i => (0, (i : Int), 140) | none => ((stN E n).r, 0, 0)) else (0, 0, 130)
def thrV (x : Int × Int × Int) : Value := .tuple #[.int .i64 x.1, .int .i64 x.2.1, .int .i64 x.2.2]
section
variable {w : World} {S : Sys} {A : Option Addr} {c : Nat} {R : Option Addr} {d n : Nat} {E : Nat → Ev} {B : Option Addr} {cb : Nat}
set_option maxRecDepth 100000 in
theorem through_sys (hS : SysIn w S A c R d) (h : validB S = false) : Calls Try.prog 60 #[.agg (sysV S A c R d), .slice B n cb] w fun e w' => e = .returned (thrV (thr S E n)) ∧ Keeps w w' [] := by
 have O := Own.start w []
 have HV : ∀ u, Keeps w u [] → Hid (Calls Try.prog 21 #[.agg (sysV S A c R d)] u fun e w' => e = .returned (.int .i64 130) ∧ Keeps u w' []) := fun u k => Lib.hid (by have := valid_any (hS.kept k); rwa [validE_no h] at this)
 have HF := Lib.hid (show thr S E n = (0, 0, 130) by simp [thr, h])
 clear h hS
 go_enter Try.func60, Try.ntmps60
 go_wp2_with (first
   | go_big_skip
   | (refine own_box 2 (sysV S A c R d) O rfl rfl rfl rfl ?_; clear O; intro W a2 O; simp only [Act.put, kA, kZ, kS])
   | (refine own_load 11 0 O rfl rfl rfl rfl rfl Try.underlying27 rfl (by kernel_rfl) ?_; simp only [Act.put, kA, kZ, kS])
   | (go_at_call 21; refine ((HV _ O.keep).out).mono ?_; rintro e W ⟨rfl, K⟩; replace O := O.keeps K; clear K))
 go_returns
 exact ⟨by rw [HF.out]; rfl, O.keep⟩
set_option maxRecDepth 100000 in
theorem through_long (hS : SysIn w S A c R d) (h : validB S = true) (hn : 40000 < n) : Calls Try.prog 60 #[.agg (sysV S A c R d), .slice B n cb] w fun e w' => e = .returned (thrV (thr S E n)) ∧ Keeps w w' [] := by
 have O := Own.start w []
 have HV : ∀ u, Keeps w u [] → Hid (Calls Try.prog 21 #[.agg (sysV S A c R d)] u fun e w' => e = .returned (.int .i64 0) ∧ Keeps u w' []) := fun u k => Lib.hid (by have := valid_any (hS.kept k); rwa [validE_yes h] at this)
 have HF := Lib.hid (show thr S E n = (0, 0, 2) by simp [thr, h, hn])
 have g0 : 40000 < (n : Int) := by omega
 clear h hS
 go_enter Try.func60, Try.ntmps60
 go_wp2_with (first
   | go_big_skip
   | (refine own_box 2 (sysV S A c R d) O rfl rfl rfl rfl ?_; clear O; intro W a2 O; simp only [Act.put, kA, kZ, kS])
   | (refine own_load 11 0 O rfl rfl rfl rfl rfl Try.underlying27 rfl (by kernel_rfl) ?_; simp only [Act.put, kA, kZ, kS])
   | (go_at_call 21; refine ((HV _ O.keep).out).mono ?_; rintro e W ⟨rfl, K⟩; replace O := O.keeps K; clear K))
 go_returns
 exact ⟨by rw [HF.out]; rfl, O.keep⟩
def LAYZ : Array Value := #[.slice none 0 0, .slice none 0 0, .int .i64 0, .int .i64 0, .int .i64 0, .int .i64 0, .map none, .map none, .map none, .map none]
set_option maxRecDepth 100000 in
set_option maxHeartbeats 1000000 in
theorem through_main (hS : SysIn w S A c R d) (h : validB S = true) (hn : n ≤ 40000) (hE : EvsAt w B n E) (hwf : ∀ i, i < n → (Lit.int .i64 (E i).a).wf = true) : Calls Try.prog 60 #[.agg (sysV S A c R d), .slice B n cb] w fun e w' => e = .returned (thrV (thr S E n)) ∧ Keeps w w' [] := by
 have O := Own.start w []
 have HV : ∀ u, Keeps w u [] → Hid (Calls Try.prog 21 #[.agg (sysV S A c R d)] u fun e w' => e = .returned (.int .i64 0) ∧ Keeps u w' []) := fun u k => Lib.hid (by have := valid_any (hS.kept k); rwa [validE_yes h] at this)
 have HF := Lib.hid (show thr S E n = match firstBad S E n with | some i => (0, (i : Int), 140) | none => ((stN E n).r, 0, 0) by simp [thr, h]; omega)
 have HH := Lib.hid ((validB_iff S).1 h).1
 have g0 : ¬ 40000 < (n : Int) := by omega
 have HE := Lib.hid hE
 have HWF := Lib.hid hwf
 clear h hS hE hwf
 go_enter Try.func60, Try.ntmps60
 go_wp2_with (first
   | go_big_skip
   | (refine own_box 2 (sysV S A c R d) O rfl rfl rfl rfl ?_; clear O; intro W a2 O; simp only [Act.put, kA, kZ, kS])
   | (refine own_load 11 0 O rfl rfl rfl rfl rfl Try.underlying27 rfl (by kernel_rfl) ?_; simp only [Act.put, kA, kZ, kS])
   | (go_at_call 21; refine ((HV _ O.keep).out).mono ?_; rintro e W ⟨rfl, K⟩; replace O := O.keeps K; clear K)
   | (refine own_load 19 0 O rfl rfl rfl rfl rfl Try.underlying27 rfl (by kernel_rfl) ?_; simp only [Act.put, kA, kZ, kS])
   | (refine at_dst 20 rfl ?_; have HW := O.keep.size; refine own_makeMap 20 O rfl rfl rfl ?_; clear O; intro W bh O Kx Mb Mi hb; have Mh := Mb; clear Mb Mi; have z_bh : w.heap.size ≤ bh := Nat.le_trans HW hb; clear HW Kx hb; simp only [Act.put, kA, kZ, kS])
   | (refine at_dst 21 rfl ?_; have HW := O.keep.size; refine own_makeMap 21 O rfl rfl rfl ?_; clear O; intro W bs O Kx Mb Mi hb; have n_bh_bs : bh ≠ bs := (by have := Mh.lt; omega); replace Mh := Mh.keeps Kx (by simp); have Ms := Mi; clear Mb Mi; have z_bs : w.heap.size ≤ bs := Nat.le_trans HW hb; clear HW Kx hb; simp only [Act.put, kA, kZ, kS])
   | (refine at_dst 22 rfl ?_; have HW := O.keep.size; refine own_makeMap 22 O rfl rfl rfl ?_; clear O; intro W bt O Kx Mb Mi hb; have n_bh_bt : bh ≠ bt := (by have := Mh.lt; omega); replace Mh := Mh.keeps Kx (by simp); have n_bs_bt : bs ≠ bt := (by have := Ms.lt; omega); replace Ms := Ms.keeps Kx (by simp); have Mt := Mi; clear Mb Mi; have z_bt : w.heap.size ≤ bt := Nat.le_trans HW hb; clear HW Kx hb; simp only [Act.put, kA, kZ, kS])
   | (refine at_dst 23 rfl ?_; have HW := O.keep.size; refine own_makeMap 23 O rfl rfl rfl ?_; clear O; intro W bu O Kx Mb Mi hb; have n_bh_bu : bh ≠ bu := (by have := Mh.lt; omega); replace Mh := Mh.keeps Kx (by simp); have n_bs_bu : bs ≠ bu := (by have := Ms.lt; omega); replace Ms := Ms.keeps Kx (by simp); have n_bt_bu : bt ≠ bu := (by have := Mt.lt; omega); replace Mt := Mt.keeps Kx (by simp); have Mu := Mb; clear Mb Mi; have z_bu : w.heap.size ≤ bu := Nat.le_trans HW hb; clear HW Kx hb; simp only [Act.put, kA, kZ, kS])
   | (refine wpList_const 24 (.agg (layV S A c R d 1 bh bs bt bu)) rfl rfl (fun _ => by kernel_rfl) ?_; simp only [Act.put, kA, kZ, kS])
   | (refine at_dst 8 rfl ?_; have HW := O.keep.size; refine own_allocK 8 LAYZ O rfl rfl rfl (fun _ => by kernel_rfl) ?_; clear O; intro W y O Kx hb; replace Mh := Mh.keeps Kx (by simp); replace Ms := Ms.keeps Kx (by simp); replace Mt := Mt.keeps Kx (by simp); replace Mu := Mu.keeps Kx (by simp); have z_y : w.heap.size ≤ y := Nat.le_trans HW hb; clear HW Kx hb; simp only [Act.put, kA, kZ, kS])
   | (have O1 := O; refine own_store_rowK 0 (.tmp 8) (.tmp 24) (cs' := layV S A c R d 1 bh bs bt bu) O rfl rfl rfl rfl rfl rfl (by kernel_rfl) rfl (layV_cell _ _ _ _ _ _ _ _ _ _) ?_; clear O; intro W O Kx; simp only [kZ] at O; replace Mh := Mh.keeps Kx (by simpa using (Mh.not_blk (O1.get 0 rfl)).symm); replace Ms := Ms.keeps Kx (by simpa using (Ms.not_blk (O1.get 0 rfl)).symm); replace Mt := Mt.keeps Kx (by simpa using (Mt.not_blk (O1.get 0 rfl)).symm); replace Mu := Mu.keeps Kx (by simpa using (Mu.not_blk (O1.get 0 rfl)).symm); clear Kx O1))
 have L0 : LayAt W S A c R d y bh bs bt bu 0 (stN E 0) := ⟨O.get 0 rfl, Mh, Ms, Mt, Mu, n_bh_bs, n_bh_bt, n_bh_bu, n_bs_bt, n_bs_bu, n_bt_bu⟩
 have K0 := O.keep
 have HZ := Lib.hid (show ∀ b ∈ [y, bh, bs, bt, bu], w.heap.size ≤ b by simp only [List.mem_cons, List.not_mem_nil, or_false]; rintro b (rfl | rfl | rfl | rfl | rfl) <;> assumption)
 clear O Mh Ms Mt Mu z_y z_bh z_bs z_bt z_bu n_bh_bs n_bh_bt n_bh_bu n_bs_bt n_bs_bu n_bt_bu
 go_loopw [27] (fun i wr => ∃ k : Nat, k ≤ n ∧ i = .int .i64 k ∧ Keeps w wr [] ∧ LayAt wr S A c R d y bh bs bt bu k (stN E k) ∧ ∀ j, j < k → okE S (stN E j) (E j) = true) (fun i _ => n - (intOf i).toNat)
 case atStart => exact ⟨0, by omega, rfl, K0, L0, fun j hj => by omega⟩
 case round =>
   obtain ⟨k, hk, rfl, K1, L1, hm⟩ := hrel
   have HM := Lib.hid hm
   have HL := Lib.hid L1
   have HK := Lib.hid K1
   clear hm L1 K1 L0 K0
   by_cases hlt : k < n
   · have g1 : ((k : Int)) < n := by omega
     have g2 : (0 : Int) ≤ k := by omega
     obtain ⟨ad, rfl, hc⟩ := EvsAt.row (u := w) HE.out hlt
     have HC := Lib.hid hc
     clear hc
     have O := Own.start wr []
     have HN := Lib.hid (fun u (ku : Keeps wr u []) => next_any HH.out (E k) (HL.out.kept ku) (HWF.out k hlt) (by omega) (fun j => by have := (stN_le E k).2.2 j; omega) (by have := stN_le E k; omega))
     cases hb : okE S (stN E k) (E k) with
     | false =>
       have HX : ∀ u, Keeps wr u [] → Hid (Calls Try.prog 92 #[.pointer (some ⟨y, 0, none⟩), .agg (evC (E k))] u fun x w' => x = .returned (.bool false) ∧ Keeps u w' [y, bh, bs, bt, bu]) := fun u ku => Lib.hid ((HN.out u ku).mono fun x w' ⟨h1, h2, h3⟩ => ⟨by rw [h1, hb], h2⟩)
       have HT := Lib.hid (firstBad_some HM.out hlt hb)
       clear hb
       go_wp2_with (first
         | go_big_skip
         | (refine wpList_load_at (cs := evC (E k)) 31 rfl rfl rfl rfl (HC.out [] _ (HK.out.trans O.keep (by simp)) (by simp)) Try.underlying37 rfl (by kernel_rfl) ?_; simp only [Act.put, kA, kZ, kS])
         | (refine own_alloc 10 (evC ⟨0, 0, 0, 0, false⟩) O rfl rfl rfl (fun _ => by kernel_rfl) ?_; clear O; intro W a10 O; simp only [Act.put, kA, kZ, kS])
         | (refine own_store_row 0 (.tmp 10) (.tmp 31) O rfl rfl rfl rfl rfl rfl (by kernel_rfl) (by rfl) (evC_cell _) ?_; clear O; intro W O; simp only [kZ] at O)
         | (refine own_load 32 0 O rfl rfl rfl rfl rfl Try.underlying37 rfl (by kernel_rfl) ?_; simp only [Act.put, kA, kZ, kS])
         | (go_at_call 92; refine ((HX _ O.keep).out).mono ?_; rintro e W ⟨rfl, KN⟩; have KW := Lib.hid (HK.out.trans ((O.keep.wide (L' := [y, bh, bs, bt, bu]) (by simp)).trans KN (fun b hb _ => hb)) (fun b hb hlt => absurd hlt (by have := HZ.out b hb; omega))); clear KN))
       go_returns
       exact ⟨by rw [HF.out, HT.out]; rfl, KW.out⟩
     | true =>
       have HX : ∀ u, Keeps wr u [] → Hid (Calls Try.prog 92 #[.pointer (some ⟨y, 0, none⟩), .agg (evC (E k))] u fun x w' => x = .returned (.bool true) ∧ Keeps u w' [y, bh, bs, bt, bu] ∧ LayAt w' S A c R d y bh bs bt bu (k + 1) (stN E (k + 1))) := fun u ku => Lib.hid ((HN.out u ku).mono fun x w' ⟨h1, h2, h3⟩ => ⟨by rw [h1, hb], h2, h3 hb⟩)
       have HM2 := Lib.hid (show ∀ j, j < k + 1 → okE S (stN E j) (E j) = true from fun j hj => if h : j = k then (by rw [h]; exact hb) else HM.out j (by omega))
       clear hb
       go_wp2_with (first
         | go_big_skip
         | (refine wpList_load_at (cs := evC (E k)) 31 rfl rfl rfl rfl (HC.out [] _ (HK.out.trans O.keep (by simp)) (by simp)) Try.underlying37 rfl (by kernel_rfl) ?_; simp only [Act.put, kA, kZ, kS])
         | (refine own_alloc 10 (evC ⟨0, 0, 0, 0, false⟩) O rfl rfl rfl (fun _ => by kernel_rfl) ?_; clear O; intro W a10 O; simp only [Act.put, kA, kZ, kS])
         | (refine own_store_row 0 (.tmp 10) (.tmp 31) O rfl rfl rfl rfl rfl rfl (by kernel_rfl) (by rfl) (evC_cell _) ?_; clear O; intro W O; simp only [kZ] at O)
         | (refine own_load 32 0 O rfl rfl rfl rfl rfl Try.underlying37 rfl (by kernel_rfl) ?_; simp only [Act.put, kA, kZ, kS])
         | (go_at_call 92; refine ((HX _ O.keep).out).mono ?_; rintro e W ⟨rfl, KN, LN⟩; have KW := Lib.hid (HK.out.trans ((O.keep.wide (L' := [y, bh, bs, bt, bu]) (by simp)).trans KN (fun b hb _ => hb)) (fun b hb hlt => absurd hlt (by have := HZ.out b hb; omega))); clear KN))
       go_roundw
       case rel => exact ⟨k + 1, by omega, by go_num, KW.out, LN, HM2.out⟩
       case measure => (simp [intOf] <;> omega)
   · obtain rfl : k = n := by omega
     have HT := Lib.hid (firstBad_none HM.out)
     have cy : wr.cell? ⟨y, 5, none⟩ = some (.int .i64 (stN E k).r) := HL.out.y.cell 5
     go_wp2
     go_returns
     exact ⟨by rw [HF.out, HT.out]; rfl, HK.out⟩
theorem through_any (hS : SysIn w S A c R d) (hE : EvsAt w B n E) (hwf : ∀ i, i < n → (Lit.int .i64 (E i).a).wf = true) : Calls Try.prog 60 #[.agg (sysV S A c R d), .slice B n cb] w fun e w' => e = .returned (thrV (thr S E n)) ∧ Keeps w w' [] := by
 cases h : validB S with
 | false => exact through_sys hS h
 | true =>
   by_cases hn : 40000 < n
   · exact through_long hS h hn
   · exact through_main hS h (by omega) hE hwf
end
open Go.RowKit Go.Maps Go.Deep
section
variable {w : World} {S : Sys} {A : Option Addr} {c : Nat} {R : Option Addr} {d n : Nat} {E : Nat → Ev} {B : Option Addr} {cb : Nat}
theorem thr_zero (h : (thr S E n).2.2 = 0) : validB S = true ∧ n ≤ 40000 ∧ ∀ j, j < n → okE S (stN E j) (E j) = true := by
 unfold thr at h
 cases hv : validB S with
 | false => rw [hv] at h; simp at h
 | true =>
   rw [hv] at h
   by_cases hn : 40000 < n
   · simp [hn] at h
   · rw [if_pos rfl, if_neg hn] at h
     cases hf : firstBad S E n with
     | some i => rw [hf] at h; simp at h
     | none =>
       refine ⟨rfl, by omega, fun j hj => ?_⟩
       unfold firstBad at hf
       rw [List.find?_eq_none] at hf
       have := hf j (List.mem_range.2 hj)
       simpa using this
end
open Go.RowKit Go.Maps Go.Deep
structure Lk where
 rows : Nat → Int → List Int
 ones : Nat → Int → Option Int
def lk0 : Lk := ⟨fun _ _ => [], fun _ _ => none⟩
def ownL (k : Lk) (who : Int) : List Int := match k.ones 4 who with | some i => [i] | none => match k.ones 5 who with | some i => [i] | none => []
def ownK (k : Lk) (who j : Int) : Lk := ⟨k.rows, updN k.ones 4 (updI (k.ones 4) who (some j))⟩
def scL (xs : List Int) : List Int := Lib.compact (xs.mergeSort fun x y => decide (x ≤ y))
def nextR (k : Lk) (rm : Int → Int) (e : Ev) : List Int :=
 ownL k e.who ++ (if e.op = 5 then (if 1 ≤ ((k.rows 0 e.a).length + 1 : Nat) - rm e.a ∧ ((k.rows 0 e.a).length + 1 : Nat) - rm e.a ≤ ((k.rows 1 e.a).length : Nat) then [(k.rows 1 e.a).getD (((k.rows 0 e.a).length + 1 : Nat) - rm e.a - 1).toNat 0] else [])
   else if e.op = 6 then (if e.sh then [(k.ones 6 e.a).getD 0] else [(k.rows 0 e.a).getD (k.rows 1 e.a).length 0])
   else if e.op = 8 then k.rows 2 e.a else if e.op = 11 then k.rows 3 e.a else [])
def pushK (k : Lk) (i : Nat) (a y : Int) : Lk := ⟨updN k.rows i (updI (k.rows i) a (k.rows i a ++ [y])), k.ones⟩
def oneK (k : Lk) (i : Nat) (a y : Int) : Lk := ⟨k.rows, updN k.ones i (updI (k.ones i) a (some y))⟩
def nextK (k : Lk) (j : Int) (e : Ev) : Lk :=
 if e.op = 14 then (if 0 < e.v then oneK (ownK k e.who j) 5 e.v j else ownK k e.who j)
 else if e.op = 5 then pushK (ownK k e.who j) 0 e.a j
 else if e.op = 6 then (if e.sh then ownK k e.who j else pushK (ownK k e.who j) 1 e.a j)
 else if e.op = 7 then (if (k.ones 6 e.a).isSome then ownK k e.who j else oneK (ownK k e.who j) 6 e.a j)
 else if e.op = 9 then pushK (ownK k e.who j) 2 e.a j
 else if e.op = 8 then ⟨updN (ownK k e.who j).rows 2 (updI ((ownK k e.who j).rows 2) e.a []), (ownK k e.who j).ones⟩
 else if e.op = 10 then pushK (ownK k e.who j) 3 e.a j
 else ownK k e.who j
theorem compactUpTo_law (d : Array Int) (hd : ∀ i j, i ≤ j → j < d.size → d[i]! ≤ d[j]!) : ∀ m, m ≤ d.size → (Lib.compactUpTo d m).Pairwise (· < ·) ∧ ∀ x, x ∈ Lib.compactUpTo d m ↔ ∃ i, i < m ∧ d[i]! = x
 | 0, _ => by simp [Lib.compactUpTo]
 | m + 1, hm => by
   obtain ⟨h1, h2⟩ := compactUpTo_law d hd m (by omega)
   rw [Lib.compactUpTo_succ]
   by_cases hk : Lib.keeps d m = true
   · rw [if_pos hk]
     refine ⟨List.pairwise_append.2 ⟨h1, by simp, fun x hx y hy => ?_⟩, fun x => ?_⟩
     · obtain rfl : y = d[m]! := by simpa using hy
       obtain ⟨i, hi, rfl⟩ := (h2 x).1 hx
       have a1 := hd i (m - 1) (by omega) (by omega)
       have a2 := hd (m - 1) m (by omega) (by omega)
       have a3 : d[m]! ≠ d[m - 1]! := fun e => by
         rw [Lib.keeps_neg (by omega) e] at hk
         cases hk
       omega
     · rw [List.mem_append, h2]
       simp only [List.mem_singleton]
       constructor
       · rintro (⟨i, hi, e⟩ | e)
         · exact ⟨i, by omega, e⟩
         · exact ⟨m, by omega, e.symm⟩
       · rintro ⟨i, hi, e⟩
         by_cases him : i = m
         · subst him; exact .inr e.symm
         · exact .inl ⟨i, by omega, e⟩
   · rw [if_neg hk, List.append_nil]
     refine ⟨h1, fun x => ?_⟩
     rw [h2]
     have hm0 : m ≠ 0 := fun e => by subst e; exact hk (Lib.keeps_lt_one d 0 (by omega))
     have he : d[m]! = d[m - 1]! := by
       by_cases e : d[m]! = d[m - 1]!
       · exact e
       · exact absurd (Lib.keeps_pos e) hk
     constructor
     · rintro ⟨i, hi, e⟩; exact ⟨i, by omega, e⟩
     · rintro ⟨i, hi, e⟩
       by_cases him : i = m
       · subst him; exact ⟨i - 1, by omega, by rw [← he]; exact e⟩
       · exact ⟨i, by omega, e⟩
theorem sc_law (xs : List Int) : (scL xs).Pairwise (· < ·) ∧ ∀ x, x ∈ scL xs ↔ x ∈ xs := by
 have hp := List.mergeSort_perm xs (fun x y : Int => decide (x ≤ y))
 have hs : (xs.mergeSort fun x y : Int => decide (x ≤ y)).Pairwise (fun a b => decide (a ≤ b) = true) := List.pairwise_mergeSort (fun a b c h1 h2 => by simp only [decide_eq_true_eq] at *; omega) (fun a b => by simp only [Bool.or_eq_true, decide_eq_true_eq]; omega) xs
 unfold scL Lib.compact
 generalize (xs.mergeSort fun x y : Int => decide (x ≤ y)) = zs at hp hs
 have hd : ∀ i j, i ≤ j → j < zs.toArray.size → zs.toArray[i]! ≤ zs.toArray[j]! := fun i j hij hj => by
   have hj' : j < zs.length := by simpa using hj
   rw [getElem!_pos zs.toArray i (by simp; omega), getElem!_pos zs.toArray j hj]
   simp only [List.getElem_toArray]
   rcases Nat.lt_or_ge i j with h | h
   · simpa using List.pairwise_iff_getElem.1 hs i j (by omega) hj' h
   · obtain rfl : i = j := by omega
     exact Int.le_refl _
 obtain ⟨h1, h2⟩ := compactUpTo_law zs.toArray hd zs.length (by simp)
 refine ⟨h1, fun x => ?_⟩
 rw [h2, ← hp.mem_iff]
 constructor
 · rintro ⟨i, hi, e⟩
   rw [getElem!_pos zs.toArray i (by simpa using hi)] at e
   rw [← e]
   simp
 · intro hx
   obtain ⟨i, hi, e⟩ := List.getElem_of_mem hx
   exact ⟨i, hi, by rw [getElem!_pos zs.toArray i (by simpa using hi)]; simpa using e⟩
def pickL (p : Nat → Bool) (j : Nat) : List Nat := (List.range j).filter p
theorem pickL_succ (p : Nat → Bool) (j : Nat) : pickL p (j + 1) = pickL p j ++ if p j then [j] else [] := by
 unfold pickL
 rw [List.range_succ, List.filter_append]
 congr 1
 cases h : p j <;> simp [h]
theorem pickL_mem (p : Nat → Bool) (j i : Nat) : i ∈ pickL p j ↔ i < j ∧ p i = true := by simp [pickL]
def natL (l : List Nat) : List Int := l.map Int.ofNat
theorem natL_append (l m : List Nat) : natL (l ++ m) = natL l ++ natL m := by simp [natL]
theorem natL_length (l : List Nat) : (natL l).length = l.length := by simp [natL]
def isSend (E : Nat → Ev) (a : Int) (i : Nat) : Bool := decide ((E i).op = 5) && decide ((E i).a = a)
def isTake (E : Nat → Ev) (a : Int) (i : Nat) : Bool := decide ((E i).op = 6) && (decide ((E i).a = a) && !(E i).sh)
def isFree (E : Nat → Ev) (a : Int) (i : Nat) : Bool := decide ((E i).op = 9) && decide ((E i).a = a)
def isAdd (E : Nat → Ev) (a : Int) (i : Nat) : Bool := decide ((E i).op = 10) && decide ((E i).a = a)
def aftN (E : Nat → Ev) (a : Int) : Nat → Nat
 | 0 => 0
 | j + 1 => if (E j).op = 8 ∧ (E j).a = a then j else aftN E a j
def freeL (E : Nat → Ev) (a : Int) (m j : Nat) : List Nat := pickL (fun i => isFree E a i && decide (m ≤ i)) j
def lastN (E : Nat → Ev) (who : Int) : Nat → Option Int
 | 0 => none
 | j + 1 => if (E j).who = who then some (j : Int) else lastN E who j
def bornN (E : Nat → Ev) (who : Int) : Nat → Option Int
 | 0 => none
 | j + 1 => if (E j).op = 14 ∧ 0 < (E j).v ∧ (E j).v = who then some (j : Int) else bornN E who j
def shutN (E : Nat → Ev) (a : Int) : Nat → Option Int
 | 0 => none
 | j + 1 => if (E j).op = 7 ∧ (E j).a = a ∧ (shutN E a j).isNone then some (j : Int) else shutN E a j
def lkN (E : Nat → Ev) : Nat → Lk
 | 0 => lk0
 | j + 1 => nextK (lkN E j) (j : Int) (E j)
def intoL (E : Nat → Ev) (rm : Int → Int) (j : Nat) : List Int := scL (nextR (lkN E j) rm (E j))
section
variable (k : Lk) (j : Int) (e : Ev) (a : Int)
theorem nextK_r0 : (nextK k j e).rows 0 a = if e.op = 5 ∧ e.a = a then k.rows 0 a ++ [j] else k.rows 0 a := by
 unfold nextK
 rcases Decidable.em (e.a = a) with h | h
 · subst h
   repeat' split
   all_goals simp_all [pushK, oneK, ownK, updN, updI]
 · have h' : ¬ a = e.a := fun q => h q.symm
   repeat' split
   all_goals simp_all [pushK, oneK, ownK, updN, updI]
theorem nextK_r1 : (nextK k j e).rows 1 a = if e.op = 6 ∧ e.sh = false ∧ e.a = a then k.rows 1 a ++ [j] else k.rows 1 a := by
 unfold nextK
 rcases Decidable.em (e.a = a) with h | h
 · subst h
   repeat' split
   all_goals simp_all [pushK, oneK, ownK, updN, updI]
 · have h' : ¬ a = e.a := fun q => h q.symm
   repeat' split
   all_goals simp_all [pushK, oneK, ownK, updN, updI]
theorem nextK_r2 : (nextK k j e).rows 2 a = if e.op = 9 ∧ e.a = a then k.rows 2 a ++ [j] else if e.op = 8 ∧ e.a = a then [] else k.rows 2 a := by
 unfold nextK
 rcases Decidable.em (e.a = a) with h | h
 · subst h
   repeat' split
   all_goals simp_all [pushK, oneK, ownK, updN, updI]
 · have h' : ¬ a = e.a := fun q => h q.symm
   repeat' split
   all_goals simp_all [pushK, oneK, ownK, updN, updI]
theorem nextK_r3 : (nextK k j e).rows 3 a = if e.op = 10 ∧ e.a = a then k.rows 3 a ++ [j] else k.rows 3 a := by
 unfold nextK
 rcases Decidable.em (e.a = a) with h | h
 · subst h
   repeat' split
   all_goals simp_all [pushK, oneK, ownK, updN, updI]
 · have h' : ¬ a = e.a := fun q => h q.symm
   repeat' split
   all_goals simp_all [pushK, oneK, ownK, updN, updI]
theorem nextK_o4 : (nextK k j e).ones 4 a = if e.who = a then some j else k.ones 4 a := by
 unfold nextK
 rcases Decidable.em (e.who = a) with h | h
 · subst h
   repeat' split
   all_goals simp_all [pushK, oneK, ownK, updN, updI]
 · have h' : ¬ a = e.who := fun q => h q.symm
   repeat' split
   all_goals simp_all [pushK, oneK, ownK, updN, updI]
theorem nextK_o5 : (nextK k j e).ones 5 a = if e.op = 14 ∧ 0 < e.v ∧ e.v = a then some j else k.ones 5 a := by
 unfold nextK
 rcases Decidable.em (e.v = a) with h | h
 · subst h
   repeat' split
   all_goals simp_all [pushK, oneK, ownK, updN, updI]
 · have h' : ¬ a = e.v := fun q => h q.symm
   repeat' split
   all_goals simp_all [pushK, oneK, ownK, updN, updI]
theorem nextK_o6 : (nextK k j e).ones 6 a = if e.op = 7 ∧ e.a = a ∧ (k.ones 6 a).isNone then some j else k.ones 6 a := by
 unfold nextK
 rcases Decidable.em (e.a = a) with h | h
 · subst h
   repeat' split
   all_goals simp_all [pushK, oneK, ownK, updN, updI]
 · have h' : ¬ a = e.a := fun q => h q.symm
   repeat' split
   all_goals simp_all [pushK, oneK, ownK, updN, updI]
end
section
variable (E : Nat → Ev) (a : Int)
theorem lk_r0 : ∀ j, (lkN E j).rows 0 a = natL (pickL (isSend E a) j)
 | 0 => rfl
 | j + 1 => by
   show (nextK (lkN E j) j (E j)).rows 0 a = _
   rw [nextK_r0, lk_r0 j, pickL_succ, natL_append]
   by_cases h : (E j).op = 5 ∧ (E j).a = a
   · rw [if_pos h, if_pos (by simp [isSend, h])]; rfl
   · rw [if_neg h, if_neg (by simpa [isSend] using h)]; simp [natL]
theorem lk_r1 : ∀ j, (lkN E j).rows 1 a = natL (pickL (isTake E a) j)
 | 0 => rfl
 | j + 1 => by
   show (nextK (lkN E j) j (E j)).rows 1 a = _
   rw [nextK_r1, lk_r1 j, pickL_succ, natL_append]
   by_cases h : (E j).op = 6 ∧ (E j).sh = false ∧ (E j).a = a
   · rw [if_pos h, if_pos (by simp [isTake, h])]; rfl
   · rw [if_neg h, if_neg (by simp only [isTake, Bool.and_eq_true, decide_eq_true_eq, Bool.not_eq_true']; exact fun q => h ⟨q.1, q.2.2, q.2.1⟩)]; simp [natL]
theorem lk_r3 : ∀ j, (lkN E j).rows 3 a = natL (pickL (isAdd E a) j)
 | 0 => rfl
 | j + 1 => by
   show (nextK (lkN E j) j (E j)).rows 3 a = _
   rw [nextK_r3, lk_r3 j, pickL_succ, natL_append]
   by_cases h : (E j).op = 10 ∧ (E j).a = a
   · rw [if_pos h, if_pos (by simp [isAdd, h])]; rfl
   · rw [if_neg h, if_neg (by simpa [isAdd] using h)]; simp [natL]
theorem aftN_le : ∀ j, aftN E a j ≤ j
 | 0 => Nat.le_refl _
 | j + 1 => by
   have := aftN_le j
   unfold aftN
   split <;> omega
theorem freeL_none (m j : Nat) (h : j ≤ m) : freeL E a m j = [] := by
 unfold freeL pickL
 rw [List.filter_eq_nil_iff]
 intro i hi
 have := List.mem_range.1 hi
 simp
 omega
theorem lk_r2 : ∀ j, (lkN E j).rows 2 a = natL (freeL E a (aftN E a j) j)
 | 0 => rfl
 | j + 1 => by
   show (nextK (lkN E j) j (E j)).rows 2 a = _
   have h1 := aftN_le E a j
   rw [nextK_r2, lk_r2 j]
   by_cases h9 : (E j).op = 9 ∧ (E j).a = a
   · rw [if_pos h9]
     have e : aftN E a (j + 1) = aftN E a j := by
       show (if (E j).op = 8 ∧ (E j).a = a then j else aftN E a j) = _
       rw [if_neg (by omega)]
     rw [e]
     show _ = natL (pickL _ (j + 1))
     rw [pickL_succ, natL_append, if_pos (by simp [isFree, h9, h1])]
     rfl
   · rw [if_neg h9]
     have hn : ∀ m, freeL E a m (j + 1) = freeL E a m j := fun m => by
       show pickL _ (j + 1) = _
       rw [pickL_succ, if_neg (by simp only [isFree, Bool.and_eq_true, decide_eq_true_eq]; exact fun q => h9 q.1), List.append_nil]
       rfl
     rw [hn]
     by_cases h8 : (E j).op = 8 ∧ (E j).a = a
     · rw [if_pos h8]
       have e : aftN E a (j + 1) = j := by
         show (if (E j).op = 8 ∧ (E j).a = a then j else aftN E a j) = _
         rw [if_pos h8]
       rw [e, freeL_none E a j j (Nat.le_refl _)]
       rfl
     · rw [if_neg h8]
       have e : aftN E a (j + 1) = aftN E a j := by
         show (if (E j).op = 8 ∧ (E j).a = a then j else aftN E a j) = _
         rw [if_neg h8]
       rw [e]
theorem lk_o4 : ∀ j, (lkN E j).ones 4 a = lastN E a j
 | 0 => rfl
 | j + 1 => by
   show (nextK (lkN E j) j (E j)).ones 4 a = _
   rw [nextK_o4, lk_o4 j]; rfl
theorem lk_o5 : ∀ j, (lkN E j).ones 5 a = bornN E a j
 | 0 => rfl
 | j + 1 => by
   show (nextK (lkN E j) j (E j)).ones 5 a = _
   rw [nextK_o5, lk_o5 j]; rfl
theorem lk_o6 : ∀ j, (lkN E j).ones 6 a = shutN E a j
 | 0 => rfl
 | j + 1 => by
   show (nextK (lkN E j) j (E j)).ones 6 a = _
   rw [nextK_o6, lk_o6 j]; rfl
end
open Go.RowKit
section
variable {P : Program} {ops : Array Oper} {md : Region.Mode} {Q : Exit → Act → World → Prop} {S : World → Prop}
def wpTake (P : Program) (ops : Array Oper) (S : World → Prop) (K : Act → Prop) : List Oper → Act → Prop
 | [], a => K a
 | o :: r, a => (Region.wanted o (yielded ops a.tmps) = true ∧ ∃ v, (∀ w, S w → (execOp a.eval o).run P w = .ok (.value v) w) ∧ wpTake P ops S K r (a.put o.dst v)) ∨
     (Region.wanted o (yielded ops a.tmps) = false ∧ wpTake P ops S K r (a.put o.dst undef))
def segQ (md : Region.Mode) (ops : Array Oper) : List Nat → Array Bool → Array Bool → Bool
 | [], listed, L' => listed == L'
 | i :: r, listed, L' => (Region.ready md ops listed).contains i && Region.free md ops listed i && segQ md ops r (listed.setIfInBounds i true) L'
def NP (Q : Exit → Act → World → Prop) : Exit → Act → World → Prop
 | .panic _, _, _ => False
 | e, a, w => Q e a w
theorem NP.imp {Q : Exit → Act → World → Prop} : ∀ (e : Exit) (a : Act) (w : World), NP Q e a w → Q e a w := fun e a w h => by
 cases e <;> first | exact h | exact (h : False).elim
theorem take_pure {K : Act → Prop} {o : Oper} {r : List Oper} {a : Act} {v : Value} (hw : Region.wanted o (yielded ops a.tmps) = true) (hv : ∀ w, S w → (execOp a.eval o).run P w = .ok (.value v) w) (h : wpTake P ops S K r (a.put o.dst v)) : wpTake P ops S K (o :: r) a := .inl ⟨hw, v, hv, h⟩
theorem take_load {K : Act → Prop} {o : Oper} {r : List Oper} {a : Act} {g : Nat} {t ty : TypeId} {cs : Array Value} {x : Operand} {d : TypeDesc} (n : Nat) (_hd : o.dst = some n)
   (hw : Region.wanted o (yielded ops a.tmps) = true) (ho : o.op = .load ty x) (hx : a.eval x = .pointer (some ⟨g, 0, none⟩)) (hb : ∀ w, S w → Blk w g t cs)
   (hu : P.underlying ty = some d) (hd' : (match d with | .struct _ | .array _ _ => true | _ => false) = true) (hi : (P.info? ty).map (·.size) = some cs.size)
   (h : wpTake P ops S K r (a.put o.dst (.agg cs))) : wpTake P ops S K (o :: r) a :=
 take_pure hw (fun w hS => by
   unfold execOp
   simp only [ho, hx, Instr.loadAt, Instr.sureAddr, Sem.run_bind, Sem.run_pure, Result.andThen_ok, run_loadVar_row w g t ty cs (0, 0) d (hb w hS) hu hd' hi]) h
end
open Go.RowKit
section
variable {P : Program} {ops : Array Oper} {md : Region.Mode} {Q : Exit → Act → World → Prop} {S : World → Prop} {n : Nat} {L : Array Bool → Act → World → Prop}
def anyHL (P : Program) (md : Region.Mode) (ops : Array Oper) (Q : Exit → Act → World → Prop) (S : World → Prop) (n : Nat) (L : Array Bool → Act → World → Prop) : Nat → Array Bool → Act → World → Prop
 | 0, listed, a, w => L listed a w
 | f + 1, listed, a, w => Region.ready md ops listed ≠ [] ∧ ∀ i ∈ Region.ready md ops listed, i < n ∧ wpOp P ops Q i (fun a' w' => S w' ∧ anyHL P md ops Q S n L f (listed.setIfInBounds i true) a' w') a w
theorem any_of_headH {g : Nat} (hL : ∀ listed a w, L listed a w → wpAny P md ops Q g listed a w) :
   ∀ (f : Nat) (listed : Array Bool) (a : Act) (w : World), anyHL P md ops Q S n L f listed a w → wpAny P md ops Q (f + g) listed a w
 | 0, listed, a, w, h => by rw [Nat.zero_add]; exact hL _ _ _ h
 | f + 1, listed, a, w, h => by
   rw [show f + 1 + g = (f + g) + 1 by omega]
   exact ⟨fun h0 => absurd h0 h.1, fun i hi => wpOp_mono (fun a' w' h' => any_of_headH hL f _ a' w' h'.2) (h.2 i hi).2⟩
theorem anyHL_first {i : Nat} {oi : Oper} {v : Value} (hi : ops[i]? = some oi) (hsel : ∀ (j : Nat) (o : Oper) cs b, ops[j]? = some o → o.op ≠ .select cs b)
   (hQ : ∀ c a w, Q (.panic c) (a.put oi.dst v) w → Q (.panic c) a w)
   (hs : Region.sinkB md ops n = true) (hc : Region.chainB md ops n = true) (hn : n < ops.size) (hin : i < n)
   (hdone : ∀ listed a w, L listed a w → ∀ j ∈ Region.ready md ops listed, n ≤ j) :
   ∀ (f : Nat) (listed : Array Bool) (a : Act) (w : World), HeadInv md ops n listed →
     (∀ j oj, ops[j]? = some oj → j ≠ i → listed.getD j true = false → (∀ e ∈ oj.after, Region.binds md e = true → e.on ≠ i) → oi.apart ops oj = true) →
     i ∈ Region.ready md ops listed → YieldsIf P ops S oi v a → S w →
     anyHL P md ops Q S n L f (listed.setIfInBounds i true) (a.put oi.dst v) w → anyHL P md ops Q S n L (f + 1) listed a w := by
 intro f
 induction f with
 | zero =>
   intro listed a w inv _ hr hy hS H
   have hun := (mem_ready.1 hr).1
   refine ⟨fun h => (by rw [h] at hr; cases hr), fun j hj => ?_⟩
   have hjn : j < n := by
     rcases Nat.lt_or_ge j n with h | h
     · exact h
     · exact absurd hj (tail_waits hs hc hn inv _ i rfl hin hun j h)
   refine ⟨hjn, ?_⟩
   by_cases hji : j = i
   · subst hji; exact hy.wpOp hi hS ⟨hS, H⟩
   · have := hdone _ _ _ H j (ready_mono hj hji)
     omega
 | succ f ih =>
   intro listed a w inv hfree hr hy hS H
   have hun := (mem_ready.1 hr).1
   refine ⟨fun h => (by rw [h] at hr; cases hr), fun j hj => ?_⟩
   have hjn : j < n := by
     rcases Nat.lt_or_ge j n with h | h
     · exact h
     · exact absurd hj (tail_waits hs hc hn inv _ i rfl hin hun j h)
   refine ⟨hjn, ?_⟩
   by_cases hji : j = i
   · subst hji; exact hy.wpOp hi hS ⟨hS, H⟩
   · have h1 := (H.2 j (ready_mono hj hji)).2
     obtain ⟨hjun, oj, hoj, hall⟩ := mem_ready.1 hj
     have hnot : ∀ e ∈ oj.after, Region.binds md e = true → e.on ≠ i := fun e he hb heq => by
       have h1 := hall e he hb
       rw [heq, getD_both hun] at h1
       cases h1
     have h2 := wpOp_putIf hoj (hfree j oj hoj hji hjun hnot) (fun cs b => hsel i oi cs b hi) (fun cs b => hsel j oj cs b hoj) hQ hy h1
     have hfree' : ∀ k ok, ops[k]? = some ok → k ≠ i → (listed.setIfInBounds j true).getD k true = false →
         (∀ e ∈ ok.after, Region.binds md e = true → e.on ≠ i) → oi.apart ops ok = true := fun k ok hk hki hun hno => by
       refine hfree k ok hk hki ?_ hno
       by_cases hjk : j = k
       · subst hjk; exact hjun
       · rw [getD_set_ne true hjk] at hun; exact hun
     refine wpOp_mono (fun a' w' h3 => ⟨h3.2.1, ih (listed.setIfInBounds j true) a' w' (inv.set hj hjn) hfree' (ready_mono hr (Ne.symm hji)) h3.1 h3.2.1 ?_⟩) h2
     rw [Array.setIfInBounds_comm _ _ hji]
     exact h3.2.2
def tailL (P : Program) (md : Region.Mode) (ops : Array Oper) (Q : Exit → Act → World → Prop) (n : Nat) (l : List Oper) (listed : Array Bool) (a : Act) (w : World) : Prop :=
 Region.seqB md ops l.length n listed = true ∧ wpList P ops Q l a w
def AH (P : Program) (ops : Array Oper) (Q : Exit → Act → World → Prop) (S : World → Prop) (n : Nat) (l : List Oper) (f : Nat) (listed : Array Bool) (a : Act) (w : World) : Prop :=
 Region.sinkB .any ops n = true → Region.chainB .any ops n = true → n < ops.size → Region.noSelect ops = true → HeadInv .any ops n listed → anyHL P .any ops (NP Q) S n (tailL P .any ops (NP Q) n l) f listed a w
theorem ah_take {l : List Oper} {L' : Array Bool} {w : World} (hS : S w) {f : Nat} :
   ∀ (is : List Nat) (os : List Oper) (listed : Array Bool) (a : Act), is.map (fun i => ops[i]?) = os.map some → is.all (fun i => decide (i < n)) = true → segQ .any ops is listed L' = true →
   wpTake P ops S (fun a' => AH P ops Q S n l f L' a' w) os a → AH P ops Q S n l (os.length + f) listed a w
 | [], os, listed, a, hl, _, hB, h => by
   cases os with
   | nil =>
     simp only [segQ, beq_iff_eq] at hB
     subst hB
     rw [List.length_nil, Nat.zero_add]
     exact h
   | cons _ _ => simp at hl
 | i :: is, os, listed, a, hl, hin, hB, h => by
   cases os with
   | nil => simp at hl
   | cons o os =>
     simp only [List.map_cons, List.cons.injEq] at hl
     obtain ⟨hi, hl⟩ := hl
     simp only [List.all_cons, Bool.and_eq_true, decide_eq_true_eq] at hin
     simp only [segQ, Bool.and_eq_true] at hB
     obtain ⟨⟨hr, hf⟩, hB⟩ := hB
     have hr' : i ∈ Region.ready .any ops listed := by simpa using hr
     intro hs hc hn hsel inv
     rw [List.length_cons, show os.length + 1 + f = (os.length + f) + 1 from by omega]
     have key : ∀ v, YieldsIf P ops S o v a → wpTake P ops S (fun a' => AH P ops Q S n l f L' a' w) os (a.put o.dst v) → anyHL P .any ops (NP Q) S n (tailL P .any ops (NP Q) n l) (os.length + f + 1) listed a w := fun v hy h =>
       anyHL_first hi (Region.noSelect_spec hsel) (fun _ _ _ h => h) hs hc hn hin.1 (fun listed' a' w' hL => seqB_ready hL.1) _ listed a w inv (Region.free_spec hi hf) hr' hy hS
         (ah_take hS is os _ _ hl hin.2 hB h hs hc hn hsel (inv.set hr' hin.1))
     rcases h with ⟨hw, v, hv, h⟩ | ⟨hw, h⟩
     · exact key v (.inl ⟨hw, hv⟩) h
     · exact key undef (.inr ⟨hw, rfl⟩) h
def BackA (P : Program) (ops : Array Oper) (Q : Exit → Act → World → Prop) (S : World → Prop) (n : Nat) (l : List Oper) (f : Nat) (L' : Array Bool) : Exit → Act → World → Prop
 | .normal, a, w => S w ∧ AH P ops Q S n l f L' a w
 | e, a, w => NP Q e a w
theorem wp_backA {l : List Oper} {f : Nat} {L' : Array Bool} {o : Oper} {a : Act} {w : World} {K : Act → World → Prop} (hh : o.wp P a w K (BackA P ops Q S n l f L')) : o.wp P a w K (NP Q) := by
 unfold Oper.wp at *
 generalize (execOp a.eval o).run P w = r at *
 cases r with
 | ok n w' =>
   cases n <;> simp only [Oper.upon] at hh ⊢ <;>
     first
       | exact hh
       | exact Calls.mono hh (fun e w'' he => by cases e <;> exact he)
 | halt x w' => cases x <;> simp only [Oper.upon] at hh ⊢ <;> exact hh
theorem ah_sole {l : List Oper} {f : Nat} {listed : Array Bool} {a : Act} {w : World} (i : Nat) (L' : Array Bool) {o : Oper} (hi : ops[i]? = some o) (hin : i < n) (hr : (Region.ready .any ops listed == [i] && listed.setIfInBounds i true == L') = true)
   (h : wpList P ops (BackA P ops Q S n l f L') [o] a w) : AH P ops Q S n l (f + 1) listed a w := by
 simp only [Bool.and_eq_true, beq_iff_eq] at hr
 obtain ⟨hr, hL⟩ := hr
 intro hs hc hn hsel inv
 refine ⟨by rw [hr]; simp, fun j hj => ?_⟩
 have hj' := hj
 rw [hr] at hj'
 obtain rfl : j = i := by simpa using hj'
 refine ⟨hin, ?_⟩
 rw [hL]
 have inv' := inv.set hj hin
 rw [hL] at inv'
 unfold wpList at h
 unfold wpOp
 simp only [hi]
 split
 · rename_i hw
   rw [if_pos hw] at h
   exact h.imp (fun h => wp_backA (Oper.wp_mono (fun a w hk => ⟨hk.1, hk.2 hs hc hn hsel inv'⟩) h)) id
 · rename_i hw
   rw [if_neg hw] at h
   exact ⟨h.1, h.2 hs hc hn hsel inv'⟩
theorem backA_intro {l : List Oper} {f : Nat} {L' : Array Bool} {a : Act} {w : World} (hS : S w) (h : AH P ops Q S n l f L' a w) : wpList P ops (BackA P ops Q S n l f L') [] a w := ⟨hS, h⟩
theorem backA_intro2 {l : List Oper} {f : Nat} {L' : Array Bool} {a : Act} {w : World} (hS : S w) (h : AH P ops Q S n l f L' a w) : BackA P ops Q S n l f L' .normal a w := ⟨hS, h⟩
theorem takeA_done {l : List Oper} {f : Nat} {L' : Array Bool} {a : Act} {w : World} (h : AH P ops Q S n l f L' a w) : wpTake P ops S (fun a' => AH P ops Q S n l f L' a' w) [] a := h
theorem ah_tail {l : List Oper} {listed : Array Bool} {a : Act} {w : World} (hq : Region.seqB .any ops l.length n listed = true) (h : wpList P ops (NP Q) l a w) : AH P ops Q S n l 0 listed a w :=
 fun _ _ _ _ _ => ⟨hq, h⟩
theorem np_intro {a : Act} {w : World} (h : Q .normal a w) : NP Q .normal a w := h
def headOk (ops : Array Oper) (n : Nat) : Bool := Region.noSelect ops && (decide (n < ops.size) && (Region.sinkB .any ops n && Region.chainB .any ops n))
theorem wp_headH {id : Nat} {a : Act} {w : World} {l : List Oper} (n : Nat) (hm : P.follows .mixedOrders = true) (hB : headOk l.toArray n = true)
   (h : AH P l.toArray Q S n (l.drop n) n (Array.replicate l.length false) a w.drew) : (Code.region id l.toArray true).wp P Q a w := by
 simp only [headOk, Bool.and_eq_true, decide_eq_true_eq] at hB
 obtain ⟨hsel, hn, hs, hc⟩ := hB
 have inv0 : HeadInv .any l.toArray n (Array.replicate l.length false) :=
   ⟨by simp, fun j oj _ hl => (by rw [getD_replicate_false] at hl; cases hl), fun t _ ht => getD_in (by simpa using ht) (getD_replicate_false _ _)⟩
 have H := h hs hc hn hsel inv0
 refine Code.wp_mono NP.imp (wp_region_any hm ?_)
 have hn' : n < l.length := by simpa using hn
 have hdl : (l.drop n).length = l.toArray.size - n := by simp
 have := any_of_headH (g := l.toArray.size - n) (fun listed a' w' hL => by
   have := wpAny_of_seq (md := .any) (Q' := NP Q) (l.drop n) n listed a' w' (fun j => by simp [List.getElem?_drop]) (by rw [hdl]; rw [← hdl]; exact hL.1) hL.2
   rwa [hdl] at this) _ _ _ _ H
 rw [show n + (l.toArray.size - n) = l.toArray.size by omega] at this
 simpa using this
end
open Go.RowKit Go.Maps Go.Deep
def nthV (p : Nat → Bool) (j m : Nat) : Int := match (pickL p j)[m]? with | some i => (i : Int) | none => -1
open Go.RowKit Go.Maps Go.Deep
def refM (E : Nat → Ev) (rm : Int → Int) (j : Nat) (e : Ev) : List Int :=
 if e.op = 6 then (if e.sh then (shutN E e.a j).toList else [nthV (isSend E e.a) j (pickL (isTake E e.a) j).length])
 else if e.op = 5 then (if rm e.a ≤ ((pickL (isSend E e.a) j).length : Int) then [nthV (isTake E e.a) j (((pickL (isSend E e.a) j).length : Int) - rm e.a).toNat] else [])
 else if e.op = 8 then natL (freeL E e.a (aftN E e.a j) j)
 else if e.op = 11 then natL (pickL (isAdd E e.a) j)
 else []
theorem lastN_lt {E : Nat → Ev} {who i : Int} : ∀ {j : Nat}, lastN E who j = some i → 0 ≤ i ∧ i < j
 | 0, h => by simp [lastN] at h
 | j + 1, h => by
   unfold lastN at h
   split at h
   · cases h; omega
   · have := lastN_lt h; omega
theorem bornN_lt {E : Nat → Ev} {who i : Int} : ∀ {j : Nat}, bornN E who j = some i → 0 ≤ i ∧ i < j
 | 0, h => by simp [bornN] at h
 | j + 1, h => by
   unfold bornN at h
   split at h
   · cases h; omega
   · have := bornN_lt h; omega
theorem shutN_lt {E : Nat → Ev} {a i : Int} : ∀ {j : Nat}, shutN E a j = some i → 0 ≤ i ∧ i < j
 | 0, h => by simp [shutN] at h
 | j + 1, h => by
   unfold shutN at h
   split at h
   · cases h; omega
   · have := shutN_lt h; omega
theorem natL_pos {l : List Nat} {x : Int} (h : x ∈ natL l) : 0 ≤ x := by
 unfold natL at h
 obtain ⟨i, _, rfl⟩ := List.mem_map.1 h
 exact Int.natCast_nonneg i
theorem natL_getD (l : List Nat) (m : Nat) : (natL l)[m]? = l[m]?.map Int.ofNat := by simp [natL]
theorem ownL_lk (E : Nat → Ev) (j : Nat) (who : Int) : ownL (lkN E j) who = match lastN E who j with | some i => [i] | none => match bornN E who j with | some i => [i] | none => [] := by
 unfold ownL
 rw [lk_o4, lk_o5]
 all_goals (cases lastN E who j <;> first | rfl | (cases bornN E who j <;> rfl))
theorem ownL_pos {E : Nat → Ev} {j : Nat} {who x : Int} (h : x ∈ ownL (lkN E j) who) : 0 ≤ x ∧ x < j := by
 rw [ownL_lk] at h
 cases hl : lastN E who j with
 | some i =>
   rw [hl] at h
   obtain rfl : x = i := by simpa using h
   exact lastN_lt hl
 | none =>
   rw [hl] at h
   cases hb : bornN E who j with
   | some i =>
     rw [hb] at h
     obtain rfl : x = i := by simpa using h
     exact bornN_lt hb
   | none => rw [hb] at h; simp at h
theorem nthV_some {p : Nat → Bool} {j m : Nat} (h : m < (pickL p j).length) : nthV p j m = (natL (pickL p j)).getD m 0 ∧ 0 ≤ nthV p j m := by
 unfold nthV
 rw [List.getElem?_eq_getElem h, List.getD_eq_getElem?_getD, natL_getD, List.getElem?_eq_getElem h]
 exact ⟨rfl, Int.natCast_nonneg _⟩
theorem nthV_none {p : Nat → Bool} {j m : Nat} (h : (pickL p j).length ≤ m) : nthV p j m = -1 := by
 unfold nthV
 rw [List.getElem?_eq_none h]
theorem into_same (E : Nat → Ev) (rm : Int → Int) (j : Nat) (e : Ev) (ht : e.op = 6 → e.sh = false → (pickL (isTake E e.a) j).length < (pickL (isSend E e.a) j).length) (hs : e.op = 6 → e.sh = true → (shutN E e.a j).isSome = true) (x : Int) :
   (x ∈ ownL (lkN E j) e.who ++ refM E rm j e ∧ 0 ≤ x) ↔ x ∈ nextR (lkN E j) rm e := by
 have hown : x ∈ ownL (lkN E j) e.who → 0 ≤ x := fun h => (ownL_pos h).1
 suffices h : (x ∈ refM E rm j e ∧ 0 ≤ x) ↔ x ∈ (if e.op = 5 then (if 1 ≤ (((lkN E j).rows 0 e.a).length + 1 : Nat) - rm e.a ∧ (((lkN E j).rows 0 e.a).length + 1 : Nat) - rm e.a ≤ (((lkN E j).rows 1 e.a).length : Nat) then [((lkN E j).rows 1 e.a).getD ((((lkN E j).rows 0 e.a).length + 1 : Nat) - rm e.a - 1).toNat 0] else [])
   else if e.op = 6 then (if e.sh then [((lkN E j).ones 6 e.a).getD 0] else [((lkN E j).rows 0 e.a).getD ((lkN E j).rows 1 e.a).length 0])
   else if e.op = 8 then (lkN E j).rows 2 e.a else if e.op = 11 then (lkN E j).rows 3 e.a else []) by
   unfold nextR
   rw [List.mem_append, List.mem_append, ← h]
   constructor
   · rintro ⟨a | a, b⟩
     · exact .inl a
     · exact .inr ⟨a, b⟩
   · rintro (a | ⟨a, b⟩)
     · exact ⟨.inl a, hown a⟩
     · exact ⟨.inr a, b⟩
 rw [lk_r0, lk_r1, lk_r2, lk_r3, lk_o6]
 simp only [natL_length]
 unfold refM
 by_cases h5 : e.op = 5
 · rw [if_neg (by omega), if_pos h5, if_pos h5]
   by_cases hr : rm e.a ≤ ((pickL (isSend E e.a) j).length : Int)
   · rw [if_pos hr]
     have e1 : ((((pickL (isSend E e.a) j).length + 1 : Nat) : Int) - rm e.a - 1).toNat = (((pickL (isSend E e.a) j).length : Int) - rm e.a).toNat := by congr 1; omega
     rcases Nat.lt_or_ge (((pickL (isSend E e.a) j).length : Int) - rm e.a).toNat (pickL (isTake E e.a) j).length with hl | hl
     · rw [if_pos (by omega), e1, (nthV_some hl).1.symm]
       have := (nthV_some hl).2
       rw [List.mem_singleton]
       exact ⟨fun h => h.1, fun h => ⟨h, by rw [h]; exact this⟩⟩
     · rw [if_neg (by omega), nthV_none hl, List.mem_singleton]
       simp
       omega
   · rw [if_neg hr, if_neg (by omega)]
     simp
 · by_cases h6 : e.op = 6
   · rw [if_pos h6, if_neg h5, if_pos h6]
     cases hsh : e.sh with
     | true =>
       rw [if_pos rfl, if_pos rfl]
       obtain ⟨i, hi⟩ := Option.isSome_iff_exists.1 (hs h6 hsh)
       rw [hi]
       have := shutN_lt hi
       simp
       omega
     | false =>
       have hl := ht h6 hsh
       rw [if_neg (by simp), if_neg (by simp), (nthV_some hl).1.symm, List.mem_singleton]
       have := (nthV_some hl).2
       exact ⟨fun h => h.1, fun h => ⟨h, by rw [h]; exact this⟩⟩
   · rw [if_neg h6, if_neg h5, if_neg h5, if_neg h6]
     by_cases h8 : e.op = 8
     · simp only [if_pos h8]
       exact ⟨fun h => h.1, fun h => ⟨h, natL_pos h⟩⟩
     · simp only [if_neg h8]
       by_cases h11 : e.op = 11
       · simp only [if_pos h11]
         exact ⟨fun h => h.1, fun h => ⟨h, natL_pos h⟩⟩
       · simp only [if_neg h11]
         simp
theorem stN_counts (E : Nat → Ev) (a : Int) : ∀ j, (stN E j).sent a = ((pickL (isSend E a) j).length : Int) ∧ (stN E j).took a = ((pickL (isTake E a) j).length : Int) ∧ ((stN E j).shut a = true ↔ (shutN E a j).isSome = true)
 | 0 => ⟨rfl, rfl, by simp [stN, st0, shutN]⟩
 | j + 1 => by
   obtain ⟨h1, h2, h3⟩ := stN_counts E a j
   rw [pickL_succ, pickL_succ, List.length_append, List.length_append]
   show (nextE (stN E j) (E j)).sent a = _ ∧ (nextE (stN E j) (E j)).took a = _ ∧ ((nextE (stN E j) (E j)).shut a = true ↔ _)
   have e7 : (shutN E a (j + 1)) = if (E j).op = 7 ∧ (E j).a = a ∧ (shutN E a j).isNone then some (j : Int) else shutN E a j := rfl
   rw [e7]
   unfold nextE
   by_cases h14 : (E j).op = 14
   · rw [if_pos h14, if_neg (show ¬ isSend E a j = true by simp [isSend, h14]), if_neg (show ¬ isTake E a j = true by simp [isTake, h14]), if_neg (show ¬ ((E j).op = 7 ∧ (E j).a = a ∧ (shutN E a j).isNone = true) by omega)]
     split <;> exact ⟨by simpa using h1, by simpa using h2, h3⟩
   · rw [if_neg h14]
     by_cases h5 : (E j).op = 5
     · rw [if_pos h5, if_neg (show ¬ isTake E a j = true by simp [isTake, h5]), if_neg (show ¬ ((E j).op = 7 ∧ (E j).a = a ∧ (shutN E a j).isNone = true) by omega)]
       refine ⟨?_, by simpa using h2, h3⟩
       by_cases ha : (E j).a = a
       · subst ha
         rw [if_pos (show isSend E (E j).a j = true by simp [isSend, h5])]
         simp [updI, h1]
       · rw [if_neg (show ¬ isSend E a j = true by simp [isSend, ha])]
         simp only [updI_other _ _ _ _ (fun q => ha (Eq.symm q))]
         simpa using h1
     · rw [if_neg h5, if_neg (show ¬ isSend E a j = true by simp [isSend, h5])]
       by_cases h6 : (E j).op = 6
       · rw [if_pos h6, if_neg (show ¬ ((E j).op = 7 ∧ (E j).a = a ∧ (shutN E a j).isNone = true) by omega)]
         by_cases hs : (E j).sh = true
         · rw [if_pos hs, if_neg (show ¬ isTake E a j = true by simp [isTake, hs])]
           exact ⟨by simpa using h1, by simpa using h2, h3⟩
         · rw [if_neg hs]
           refine ⟨by simpa using h1, ?_, h3⟩
           by_cases ha : (E j).a = a
           · subst ha
             rw [if_pos (show isTake E (E j).a j = true by simp [isTake, h6, hs])]
             simp [updI, h2]
           · rw [if_neg (show ¬ isTake E a j = true by simp [isTake, ha])]
             simp only [updI_other _ _ _ _ (fun q => ha (Eq.symm q))]
             simpa using h2
       · rw [if_neg h6, if_neg (show ¬ isTake E a j = true by simp [isTake, h6])]
         by_cases h7 : (E j).op = 7
         · rw [if_pos h7]
           refine ⟨by simpa using h1, by simpa using h2, ?_⟩
           by_cases ha : (E j).a = a
           · subst ha
             simp only [updI_same]
             split
             · simp
             · rename_i hq
               cases hx : shutN E (E j).a j with
               | some i => simp
               | none => exact absurd ⟨h7, trivial, by rw [hx]; rfl⟩ hq
           · simp only [updI_other _ _ _ _ (fun q => ha (Eq.symm q))]
             rw [if_neg (fun q => ha q.2.1)]
             exact h3
         · rw [if_neg h7, if_neg (show ¬ ((E j).op = 7 ∧ (E j).a = a ∧ (shutN E a j).isNone = true) by omega)]
           split
           · exact ⟨by simpa using h1, by simpa using h2, h3⟩
           · split <;> exact ⟨by simpa using h1, by simpa using h2, h3⟩
theorem ok_take {S : Sys} {E : Nat → Ev} {j : Nat} (h : okE S (stN E j) (E j) = true) (h6 : (E j).op = 6) (hs : (E j).sh = false) : (pickL (isTake E (E j).a) j).length < (pickL (isSend E (E j).a) j).length := by
 unfold okE bodyE at h
 rw [if_neg (by omega), if_pos h6, hs] at h
 simp only [Bool.and_eq_true, Bool.false_eq_true, if_false, decide_eq_true_eq] at h
 obtain ⟨h1, h2, _⟩ := stN_counts E (E j).a j
 omega
theorem ok_shut {S : Sys} {E : Nat → Ev} {j : Nat} (h : okE S (stN E j) (E j) = true) (h6 : (E j).op = 6) (hs : (E j).sh = true) : (shutN E (E j).a j).isSome = true := by
 unfold okE bodyE at h
 rw [if_neg (by omega), if_pos h6, hs] at h
 simp only [Bool.and_eq_true, if_true] at h
 exact (stN_counts E (E j).a j).2.2.1 h.2
open Go.RowKit Go.Maps Go.Deep
section
variable {w : World} {S : Sys} {A : Option Addr} {c : Nat} {R : Option Addr} {d n : Nat} {E : Nat → Ev} {B : Option Addr} {cb : Nat}
def rmS (S : Sys) (a : Int) : Int := S.rm a.toNat
end
open Go.RowKit Go.Maps Go.Deep
def HRow (base : Nat) (W : World) (v : Value) (xs : List Int) : Prop :=
 (v = .slice none 0 0 ∧ xs = []) ∨ ∃ g off cap cur, v = .slice (some ⟨g, off, none⟩) xs.length cap ∧ base ≤ g ∧ Blk W g 3 cur ∧ xs.length ≤ cap ∧ cap ≤ maxLen ∧ off + cap ≤ cur.size ∧ ∀ j, j < xs.length → cur[off + j]? = some (.int .i64 (xs.getD j 0))
theorem HRow.nil (base : Nat) (W : World) : HRow base W (.slice none 0 0) [] := .inl ⟨rfl, rfl⟩
theorem HRow.own {base : Nat} {W : World} {v : Value} {xs : List Int} (h : HRow base W v xs) {g : Nat} (hg : v.ownBlock = some g) : base ≤ g ∧ ∃ cur, Blk W g 3 cur := by
 rcases h with ⟨rfl, _⟩ | ⟨g', off, cap, cur, rfl, hb, hB, _⟩
 · cases hg
 · simp [Value.ownBlock] at hg
   subst hg
   exact ⟨hb, cur, hB⟩
theorem HRow.keeps {base : Nat} {W u : World} {v : Value} {xs : List Int} {S : List Nat} (h : HRow base W v xs) (k : Keeps W u S) (hS : ∀ g, v.ownBlock = some g → g ∉ S) : HRow base u v xs := by
 rcases h with h | ⟨g, off, cap, cur, rfl, hb, hB, rest⟩
 · exact .inl h
 · exact .inr ⟨g, off, cap, cur, rfl, hb, hB.keeps k (hS g rfl), rest⟩
theorem HRow.cells {base : Nat} {W : World} {v : Value} {xs : List Int} (h : HRow base W v xs) : ∃ A c, v = .slice A xs.length c ∧ xs.length ≤ c ∧ c ≤ maxLen ∧ (0 < xs.length → ∃ ad, A = some ad ∧ ∀ j, j < xs.length → W.cell? (ad.add j) = some (.int .i64 (xs.getD j 0))) := by
 rcases h with ⟨rfl, rfl⟩ | ⟨g, off, cap, cur, rfl, hb, hB, h1, h2, h3, h4⟩
 · exact ⟨none, 0, rfl, Nat.le_refl _, by simp [maxLen], fun h => by simp at h⟩
 · exact ⟨_, cap, rfl, h1, h2, fun _ => ⟨_, rfl, fun j hj => by rw [Addr.add_mid, hB.cell]; exact h4 j hj⟩⟩
theorem HRow.pop {base : Nat} {W : World} {x : Int} {xs : List Int} {A : Option Addr} {n c : Nat} (h : HRow base W (.slice A n c) (x :: xs)) : HRow base W (.slice (if c = 1 then A else A.map (·.add 1)) (n - 1) (c - 1)) xs := by
 rcases h with ⟨h, h'⟩ | ⟨g, off, cap, cur, h, hb, hB, h1, h2, h3, h4⟩
 · cases h'
 · injection h with e1 e2 e3
   subst e1 e2 e3
   simp only [List.length_cons] at h1 h4 ⊢
   right
   by_cases hc : c = 1
   · rw [if_pos hc]
     have hx : xs = [] := List.eq_nil_of_length_eq_zero (by omega)
     subst hx
     exact ⟨g, off, c - 1, cur, by simp, hb, hB, by simp, by omega, by omega, fun j hj => by simp at hj⟩
   · rw [if_neg hc]
     refine ⟨g, off + 1, c - 1, cur, by simp [Addr.add_mid], hb, hB, by omega, by omega, by omega, fun j hj => ?_⟩
     have := h4 (j + 1) (by omega)
     rw [show off + 1 + j = off + (j + 1) by omega, this]
     simp
section
variable {w : World}
theorem append_fresh {P : Program} (base t ty e : Nat) (i : TypeInfo) (z : Value) (size bytes : Nat) (ht : P.underlying t = some (.slice e)) (hi : P.info? e = some i) (hz : i.zero = some z) (hsize : i.size = size) (hby : i.bytes = bytes)
   (v : Value) (n : Nat) (xs : List Value) (hown : w.ownsRow base e size v n xs) (a : Addr) (m c : Nat) (news : List Value) (hl : news.length = m * size) (hnews : ∀ j u, news[j]? = some u → w.cell? (a.add j) = some u) (h1 : ∀ u ∈ news, u.oneCell' = true)
   (h63 : n + m ≤ maxLen) (hbytes : (n + m) * bytes ≤ 140737488355328) (hm : 0 < m) {v' : Value} {w' : World} (hr : (Builtin.append_ #[t, t] ty #[v, .slice (some a) m c]).run P w = .ok v' w') : v'.ownBlock = v.ownBlock ∨ v'.ownBlock = some w.heap.size := by
 subst hsize
 subst hby
 obtain ⟨hxl, ⟨rfl, rfl⟩ | ⟨g, cap, cur, rfl, hbg, hg, hle, hcm, hcs, htake⟩⟩ := hown
 · have h := run_append_nil (P := P) w t ty e i z ht hi hz a m c news hl hnews hm (by simp only [maxLen] at h63; omega) (by have hb := hbytes; simp only [Nat.zero_add] at hb; omega)
   rw [hr] at h
   cases h
   exact .inr rfl
 · by_cases hroom : n + m ≤ cap
   · have hfit : n * i.size + news.length ≤ cur.size := by rw [hl, hcs, ← Nat.add_mul]; exact Nat.mul_le_mul_right _ hroom
     have h := run_append_room (P := P) w t ty e i ht hi g n cap cur hg a m c news hl hnews h1 hroom hfit
     rw [hr] at h
     cases h
     exact .inl rfl
   · have hown' : w.ownsRow base e i.size (.slice (some ⟨g, 0, none⟩) n cap) n xs := ⟨hxl, .inr ⟨g, cap, cur, rfl, hbg, hg, hle, hcm, hcs, htake⟩⟩
     have holds : ∀ j u, xs[j]? = some u → w.cell? ((⟨g, 0, none⟩ : Addr).add j) = some u := hown'.cells (g := g) rfl
     have h := run_append_grow (P := P) w t ty e i z ht hi hz ⟨g, 0, none⟩ n cap xs hxl holds a m c news hl hnews (by omega) (by simp only [maxLen] at h63; omega) (growslice_fits (by omega) hbytes)
     rw [hr] at h
     cases h
     exact .inr rfl
theorem run_push (base : Nat) (ty : TypeId) (v : Value) (xs : List Int) (h : HRow base w v xs) (ad : Addr) (c : Nat) (y : Int) (hy : w.cell? ad = some (.int .i64 y)) (hb : base ≤ w.heap.size) (hn : xs.length ≤ 1000000) :
   ∃ v' w', (Builtin.append_ #[25, 25] ty #[v, .slice (some ad) 1 c]).run Try.prog w = .ok v' w' ∧ HRow base w' v' (xs ++ [y]) ∧ w.grownBy w' v.ownBlock ∧ (v'.ownBlock = v.ownBlock ∨ v'.ownBlock = some w.heap.size) := by
 obtain ⟨i, hi, hz, hsz, hby⟩ := info3
 have hnews : ∀ j u, [Value.int .i64 y][j]? = some u → w.cell? (ad.add j) = some u := fun j u hu => by
   match j with
   | 0 => simp at hu; subst hu; exact hy
   | j + 1 => simp at hu
 have h1 : ∀ u ∈ [Value.int .i64 y], u.oneCell' = true := fun u hu => by rw [List.mem_singleton] at hu; subst hu; rfl
 rcases h with ⟨rfl, rfl⟩ | ⟨g, off, cap, cur, rfl, hbg, hB, hnc, hcm, hfit, hc⟩
 · obtain ⟨v', w', hr, ho, hg, _⟩ := run_append_own (P := Try.prog) w base 25 ty 3 i (.int .i64 0) 1 8 Try.underlying25 hi hz hsz hby rfl (by decide) (.slice none 0 0) 0 [] (World.ownsRow_nil _ _ _ _) ad 1 c [.int .i64 y] rfl hnews h1 (by simp [maxLen]) (by omega) hb
   refine ⟨v', w', hr, ?_, hg, append_fresh base 25 ty 3 i (.int .i64 0) 1 8 Try.underlying25 hi hz hsz hby (.slice none 0 0) 0 [] (World.ownsRow_nil _ _ _ _) ad 1 c [.int .i64 y] rfl hnews h1 (by simp [maxLen]) (by omega) (by omega) hr⟩
   obtain ⟨_, ⟨_, h0⟩ | ⟨g, cap, cur, rfl, hbg, hB, hle, hm, hs, ht⟩⟩ := ho
   · cases h0
   · refine .inr ⟨g, 0, cap, cur, rfl, hbg, hB, hle, hm, by omega, fun j hj => ?_⟩
     have hj0 : j = 0 := by simpa using hj
     subst hj0
     have := congrArg (fun l => l[0]?) ht
     simpa [List.getElem?_take] using this
 · by_cases hroom : xs.length + 1 ≤ cap
   · have hf := run_firstCells_some (P := Try.prog) w 1 1 ad 1 c [.int .i64 y] rfl hnews
     have hst := run_storeCells_at Try.prog g (off + xs.length) 3 [.int .i64 y] 0 cur w hB (by simp; omega) h1
     simp only [Nat.add_zero] at hst
     have hr : (Builtin.append_ #[25, 25] ty #[.slice (some ⟨g, off, none⟩) xs.length cap, .slice (some ad) 1 c]).run Try.prog w = .ok (.slice (some ⟨g, off, none⟩) (xs.length + 1) cap) (w.setRow g (cur.toList.take (off + xs.length) ++ [Value.int .i64 y] ++ cur.toList.drop (off + xs.length + [Value.int IntKind.i64 y].length)).toArray) := by
       simp [Builtin.append_, run_underlying Try.underlying25, sizeOf, typeInfo, hi, hsz, Builtin.lenOf, hroom, hf, Addr.add_mid, hst]
     refine ⟨_, _, hr, .inr ⟨g, off, cap, _, by simp, hbg, setRow_heap w g cur _ 3 _ hB, by simpa using hroom, hcm, ?_, fun j hj => ?_⟩, ⟨rfl, rfl, rfl, by simp, fun k _ hk => setRow_other w g k _ (fun e => hk (by simp [Value.ownBlock, e]))⟩, .inl rfl⟩
     · simp; omega
     · simp only [List.length_append, List.length_singleton] at hj
       have hsz2 : off + xs.length ≤ cur.toList.length := by simp; omega
       rw [List.getElem?_toArray, List.append_assoc]
       by_cases hj' : j < xs.length
       · rw [List.getElem?_append_left (by rw [List.length_take]; omega), List.getElem?_take, if_pos (by omega), Array.getElem?_toList, hc j hj']
         rw [List.getD_eq_getElem?_getD, List.getD_eq_getElem?_getD, List.getElem?_append_left hj']
       · obtain rfl : j = xs.length := by omega
         rw [List.getElem?_append_right (by rw [List.length_take]; omega), List.length_take, Nat.min_eq_left hsz2]
         simp
   · have holds : ∀ j u, (xs.map fun x => Value.int .i64 x)[j]? = some u → w.cell? ((⟨g, off, none⟩ : Addr).add j) = some u := fun j u hu => by
       rw [List.getElem?_map] at hu
       rcases Nat.lt_or_ge j xs.length with hj | hj
       · rw [Addr.add_mid, hB.cell, hc j hj]
         rw [List.getElem?_eq_getElem hj] at hu
         rw [← hu, List.getD_eq_getElem?_getD, List.getElem?_eq_getElem hj]
         rfl
       · rw [List.getElem?_eq_none hj] at hu
         cases hu
     have hr := run_append_grow (P := Try.prog) w 25 ty 3 i (.int .i64 0) Try.underlying25 hi hz ⟨g, off, none⟩ xs.length cap (xs.map fun x => .int .i64 x) (by rw [hsz]; simp) holds ad 1 c [.int .i64 y] (by rw [hsz]; rfl) hnews (by omega) (by omega) (growslice_fits (by omega) (by rw [hby]; omega))
     have hge := grownCap_ge w (xs.length + 1) cap 3
     have hcm2 : grownCap w (xs.length + 1) cap 3 ≤ maxLen := grownCap_le_maxLen w (xs.length + 1) cap 3 (by simp only [maxLen]; omega)
     refine ⟨_, _, hr, .inr ⟨w.heap.size, 0, _, _, by simp, hb, heap_alloc_new w.drew _, by simpa using hge, hcm2, ?_, fun j hj => ?_⟩, ⟨rfl, rfl, rfl, by simp, fun k hk _ => heap_alloc_old w.drew _ hk⟩, .inr rfl⟩
     · have z1 : (Value.int .i64 0).cells.size = 1 := rfl
       simp only [Array.size_append, List.size_toArray, size_zeroCells, z1, List.length_map, List.length_singleton]
       omega
     · simp only [List.length_append, List.length_singleton] at hj
       rw [Nat.zero_add, Array.getElem?_append_left (by simp; omega)]
       by_cases hj' : j < xs.length
       · rw [Array.getElem?_append_left (by simpa using hj'), List.getElem?_toArray, List.getElem?_map, List.getD_eq_getElem?_getD, List.getElem?_append_left hj', List.getElem?_eq_getElem hj']
         rfl
       · obtain rfl : j = xs.length := by omega
         rw [Array.getElem?_append_right (by simp)]
         simp
end
end Go.Proofs.Ytakmcpadkanggaa

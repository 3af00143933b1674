/-
  From where a runner's own edges lead: (*links).own of trace.
-/
import Derived.Test.YtakmcpadkanggaaV2
import Derived.Test.YtakmcpadkanggaaT11
namespace Go.Proofs.Ytakmcpadkanggaa
open Go.RowKit Go.Maps Go.Deep

section
variable {w : World} {F : List Nat} {rooms : Value} {p : Nat} {mb : Nat → Nat} {f : Nat → Int → Option Value} {k : Lk} {m base : Nat} {who op a v : Int} {sh : Bool} {j : Int}
def OwnPost (w : World) (F : List Nat) (rooms : Value) (p : Nat) (mb : Nat → Nat) (f : Nat → Int → Option Value) (k : Lk) (m base : Nat) (who j : Int) (x : Ending) (u : World) : Prop :=
  ∃ r, x = .returned r ∧ Mint w.heap.size u r (ownL k who) ∧ LinksAt u F rooms p mb (updN f 4 (updI (f 4) who (some (.int .i64 j)))) (ownK k who j) (m + 1) base ∧ Keeps w u [mb 4]
set_option maxRecDepth 100000 in
set_option maxHeartbeats 1000000 in
theorem own_1 (hl : LinksAt w F rooms p mb f k m base) (hwf : (Lit.int .i64 who).wf = true) (hm : m < maxLen) {i : Int} (h4 : k.ones 4 who = some i) : Calls Try.prog 94 #[.pointer (some ⟨p, 0, none⟩), .int .i64 j, .agg #[Value.int .i64 who, .int .i64 op, .int .i64 a, .int .i64 v, .bool sh]] w (OwnPost w F rooms p mb f k m base who j) := by
  have O := Own.start w []
  have HL := Lib.hid hl
  have HWF := Lib.hid hwf
  have HM := Lib.hid hm
  have HV4 := Lib.hid (show f 4 who = some (.int .i64 i) by rw [HL.out.ones 4 (by decide) (by decide), h4]; rfl)
  have HR := Lib.hid (show ownL k who = [i] by simp [ownL, h4])
  clear h4
  clear hl hwf hm
  go_enter Try.func94, Try.ntmps94
  go_wp2_with (first
    | (refine own_box 5 #[Value.int .i64 who, .int .i64 op, .int .i64 a, .int .i64 v, .bool sh] O rfl rfl rfl rfl ?_; clear O; intro W b5 O; simp only [Act.put, List.setIfInBounds_toArray, List.set_cons_zero, List.set_cons_succ]))
  have c5 := Later.cell (O.get 0 rfl)
  have cm : ∀ q : Later W, q.1.cell? ⟨p, 1, none⟩ = some (.map (some (mb 4))) := fun q => (HL.out.kept (O.keep.trans q.2 (by simp)) (by simp)).blk.cell 1
  have lk : ∀ q : Later W, (Instr.lookup 117 (.map (some (mb 4))) (.int .i64 who) true).run Try.prog q.1 = .ok (.tuple #[.int .i64 i, .bool true]) q.1 := fun q => by
    have := look_okV ((HL.out.kept (O.keep.trans q.2 (by simp)) (by simp)).maps 4 (by decide)) 117 3 (.int .i64 0) Try.underlying117 (zero3 _) who HWF.out
    rwa [HV4.out] at this
  refine wp_quiet_later (by kernel_rfl) (by kernel_rfl) ?_
  repeat (first
    | go_big_quiet_skip
    | go_big_quiet_step (fail))
  refine wpQuiet_nil ?_
  intro _ hw
  obtain ⟨p', rfl⟩ := hw
  replace O := O.keeps p'.2
  clear c5 cm lk
  generalize p'.1 = W at O ⊢
  go_wp2_with (first
    | (refine own_lit1 25 i O rfl rfl rfl rfl ?_; clear O; intro W gl O K1 _; simp only [Act.put, List.setIfInBounds_toArray, List.set_cons_zero, List.set_cons_succ])
    | (at_builtin; refine own_app w.heap.size (.slice none 0 0) [] i gl (.tmp 23) (.tmp 25) (O.drop_ 1) (Mint.nil _ _) rfl rfl rfl rfl ((O.get 0 rfl).cell 0) rfl (by simp) (by simp) ?_; intro v' W O2 M2; clear O; have O := O2; clear O2; simp only [Act.put, List.setIfInBounds_toArray, List.set_cons_zero, List.set_cons_succ]; simp only [List.drop] at O; rw [List.nil_append] at M2)
    | go_big_skip)
  have c5 := Later.cell (O.get 0 rfl)
  have cm : ∀ q : Later W, q.1.cell? ⟨p, 1, none⟩ = some (.map (some (mb 4))) := fun q => (HL.out.kept (O.keep.trans q.2 (by simp)) (by simp)).blk.cell 1
  refine wp_quiet_tail_later 7 (by kernel_rfl) (by kernel_rfl) ?_
  simp only [List.take, List.drop]
  repeat (first
    | go_big_quiet_skip
    | go_big_quiet_step (fail))
  refine wpQuiet_nil ?_
  intro _ hw
  obtain ⟨p', rfl⟩ := hw
  replace O := O.keeps p'.2
  replace M2 := M2.keeps p'.2 (by simp)
  clear c5 cm
  generalize p'.1 = W at O M2 ⊢
  refine map_storeV ((HL.out.kept O.keep (by simp)).maps 4 (by decide)) 117 3 Try.underlying117 rfl rfl rfl rfl HWF.out rfl HM.out ?_
  intro u K M
  have L2 := Lib.hid ((HL.out.kept O.keep (by simp)).setOne (Nat.le_refl 4) (by decide) K M)
  have K2 := Lib.hid ((O.keep.wide (L' := [mb 4]) (by simp)).trans K (fun b hb _ => hb))
  have M3 := Lib.hid (M2.keeps K fun g hg hm => by
    obtain ⟨_, _, cur, hb⟩ := M2.own hg
    obtain rfl : g = mb 4 := by simpa using hm
    exact ((HL.out.kept O.keep (by simp)).maps 4 (by decide)).not_blk hb rfl)
  clear M M2
  go_wp2
  go_ret
  exact ⟨_, rfl, by rw [HR.out]; exact M3.out, L2.out, K2.out⟩
set_option maxRecDepth 100000 in
set_option maxHeartbeats 1000000 in
theorem own_2 (hl : LinksAt w F rooms p mb f k m base) (hwf : (Lit.int .i64 who).wf = true) (hm : m < maxLen) {i : Int} (h4 : k.ones 4 who = none) (h5 : k.ones 5 who = some i) : Calls Try.prog 94 #[.pointer (some ⟨p, 0, none⟩), .int .i64 j, .agg #[Value.int .i64 who, .int .i64 op, .int .i64 a, .int .i64 v, .bool sh]] w (OwnPost w F rooms p mb f k m base who j) := by
  have O := Own.start w []
  have HL := Lib.hid hl
  have HWF := Lib.hid hwf
  have HM := Lib.hid hm
  have HV4 := Lib.hid (show f 4 who = none by rw [HL.out.ones 4 (by decide) (by decide), h4]; rfl)
  have HV5 := Lib.hid (show f 5 who = some (.int .i64 i) by rw [HL.out.ones 5 (by decide) (by decide), h5]; rfl)
  have HR := Lib.hid (show ownL k who = [i] by simp [ownL, h4, h5])
  clear h4 h5
  clear hl hwf hm
  go_enter Try.func94, Try.ntmps94
  go_wp2_with (first
    | (refine own_box 5 #[Value.int .i64 who, .int .i64 op, .int .i64 a, .int .i64 v, .bool sh] O rfl rfl rfl rfl ?_; clear O; intro W b5 O; simp only [Act.put, List.setIfInBounds_toArray, List.set_cons_zero, List.set_cons_succ]))
  have c5 := Later.cell (O.get 0 rfl)
  have cm : ∀ q : Later W, q.1.cell? ⟨p, 1, none⟩ = some (.map (some (mb 4))) := fun q => (HL.out.kept (O.keep.trans q.2 (by simp)) (by simp)).blk.cell 1
  have lk : ∀ q : Later W, (Instr.lookup 117 (.map (some (mb 4))) (.int .i64 who) true).run Try.prog q.1 = .ok (.tuple #[.int .i64 0, .bool false]) q.1 := fun q => by
    have := look_okV ((HL.out.kept (O.keep.trans q.2 (by simp)) (by simp)).maps 4 (by decide)) 117 3 (.int .i64 0) Try.underlying117 (zero3 _) who HWF.out
    rwa [HV4.out] at this
  refine wp_quiet_later (by kernel_rfl) (by kernel_rfl) ?_
  repeat (first
    | go_big_quiet_skip
    | go_big_quiet_step (fail))
  refine wpQuiet_nil ?_
  intro _ hw
  obtain ⟨p', rfl⟩ := hw
  replace O := O.keeps p'.2
  clear c5 cm lk
  generalize p'.1 = W at O ⊢
  go_wp2
  have c5 := Later.cell (O.get 0 rfl)
  have cm : ∀ q : Later W, q.1.cell? ⟨p, 2, none⟩ = some (.map (some (mb 5))) := fun q => (HL.out.kept (O.keep.trans q.2 (by simp)) (by simp)).blk.cell 2
  have lk : ∀ q : Later W, (Instr.lookup 117 (.map (some (mb 5))) (.int .i64 who) true).run Try.prog q.1 = .ok (.tuple #[.int .i64 i, .bool true]) q.1 := fun q => by
    have := look_okV ((HL.out.kept (O.keep.trans q.2 (by simp)) (by simp)).maps 5 (by decide)) 117 3 (.int .i64 0) Try.underlying117 (zero3 _) who HWF.out
    rwa [HV5.out] at this
  refine wp_quiet_later (by kernel_rfl) (by kernel_rfl) ?_
  repeat (first
    | go_big_quiet_skip
    | go_big_quiet_step (fail))
  refine wpQuiet_nil ?_
  intro _ hw
  obtain ⟨p', rfl⟩ := hw
  replace O := O.keeps p'.2
  clear c5 cm lk
  generalize p'.1 = W at O ⊢
  go_wp2_with (first
    | (refine own_lit1 40 i O rfl rfl rfl rfl ?_; clear O; intro W gl O K1 _; simp only [Act.put, List.setIfInBounds_toArray, List.set_cons_zero, List.set_cons_succ])
    | (at_builtin; refine own_app w.heap.size (.slice none 0 0) [] i gl (.tmp 38) (.tmp 40) (O.drop_ 1) (Mint.nil _ _) rfl rfl rfl rfl ((O.get 0 rfl).cell 0) rfl (by simp) (by simp) ?_; intro v' W O2 M2; clear O; have O := O2; clear O2; simp only [Act.put, List.setIfInBounds_toArray, List.set_cons_zero, List.set_cons_succ]; simp only [List.drop] at O; rw [List.nil_append] at M2)
    | go_big_skip)
  have c5 := Later.cell (O.get 0 rfl)
  have cm : ∀ q : Later W, q.1.cell? ⟨p, 1, none⟩ = some (.map (some (mb 4))) := fun q => (HL.out.kept (O.keep.trans q.2 (by simp)) (by simp)).blk.cell 1
  refine wp_quiet_tail_later 7 (by kernel_rfl) (by kernel_rfl) ?_
  simp only [List.take, List.drop]
  repeat (first
    | go_big_quiet_skip
    | go_big_quiet_step (fail))
  refine wpQuiet_nil ?_
  intro _ hw
  obtain ⟨p', rfl⟩ := hw
  replace O := O.keeps p'.2
  replace M2 := M2.keeps p'.2 (by simp)
  clear c5 cm
  generalize p'.1 = W at O M2 ⊢
  refine map_storeV ((HL.out.kept O.keep (by simp)).maps 4 (by decide)) 117 3 Try.underlying117 rfl rfl rfl rfl HWF.out rfl HM.out ?_
  intro u K M
  have L2 := Lib.hid ((HL.out.kept O.keep (by simp)).setOne (Nat.le_refl 4) (by decide) K M)
  have K2 := Lib.hid ((O.keep.wide (L' := [mb 4]) (by simp)).trans K (fun b hb _ => hb))
  have M3 := Lib.hid (M2.keeps K fun g hg hm => by
    obtain ⟨_, _, cur, hb⟩ := M2.own hg
    obtain rfl : g = mb 4 := by simpa using hm
    exact ((HL.out.kept O.keep (by simp)).maps 4 (by decide)).not_blk hb rfl)
  clear M M2
  go_wp2
  go_ret
  exact ⟨_, rfl, by rw [HR.out]; exact M3.out, L2.out, K2.out⟩
set_option maxRecDepth 100000 in
set_option maxHeartbeats 1000000 in
theorem own_3 (hl : LinksAt w F rooms p mb f k m base) (hwf : (Lit.int .i64 who).wf = true) (hm : m < maxLen) (h4 : k.ones 4 who = none) (h5 : k.ones 5 who = none) : Calls Try.prog 94 #[.pointer (some ⟨p, 0, none⟩), .int .i64 j, .agg #[Value.int .i64 who, .int .i64 op, .int .i64 a, .int .i64 v, .bool sh]] w (OwnPost w F rooms p mb f k m base who j) := by
  have O := Own.start w []
  have HL := Lib.hid hl
  have HWF := Lib.hid hwf
  have HM := Lib.hid hm
  have HV4 := Lib.hid (show f 4 who = none by rw [HL.out.ones 4 (by decide) (by decide), h4]; rfl)
  have HV5 := Lib.hid (show f 5 who = none by rw [HL.out.ones 5 (by decide) (by decide), h5]; rfl)
  have HR := Lib.hid (show ownL k who = [] by simp [ownL, h4, h5])
  clear h4 h5
  clear hl hwf hm
  go_enter Try.func94, Try.ntmps94
  go_wp2_with (first
    | (refine own_box 5 #[Value.int .i64 who, .int .i64 op, .int .i64 a, .int .i64 v, .bool sh] O rfl rfl rfl rfl ?_; clear O; intro W b5 O; simp only [Act.put, List.setIfInBounds_toArray, List.set_cons_zero, List.set_cons_succ]))
  have c5 := Later.cell (O.get 0 rfl)
  have cm : ∀ q : Later W, q.1.cell? ⟨p, 1, none⟩ = some (.map (some (mb 4))) := fun q => (HL.out.kept (O.keep.trans q.2 (by simp)) (by simp)).blk.cell 1
  have lk : ∀ q : Later W, (Instr.lookup 117 (.map (some (mb 4))) (.int .i64 who) true).run Try.prog q.1 = .ok (.tuple #[.int .i64 0, .bool false]) q.1 := fun q => by
    have := look_okV ((HL.out.kept (O.keep.trans q.2 (by simp)) (by simp)).maps 4 (by decide)) 117 3 (.int .i64 0) Try.underlying117 (zero3 _) who HWF.out
    rwa [HV4.out] at this
  refine wp_quiet_later (by kernel_rfl) (by kernel_rfl) ?_
  repeat (first
    | go_big_quiet_skip
    | go_big_quiet_step (fail))
  refine wpQuiet_nil ?_
  intro _ hw
  obtain ⟨p', rfl⟩ := hw
  replace O := O.keeps p'.2
  clear c5 cm lk
  generalize p'.1 = W at O ⊢
  go_wp2
  have c5 := Later.cell (O.get 0 rfl)
  have cm : ∀ q : Later W, q.1.cell? ⟨p, 2, none⟩ = some (.map (some (mb 5))) := fun q => (HL.out.kept (O.keep.trans q.2 (by simp)) (by simp)).blk.cell 2
  have lk : ∀ q : Later W, (Instr.lookup 117 (.map (some (mb 5))) (.int .i64 who) true).run Try.prog q.1 = .ok (.tuple #[.int .i64 0, .bool false]) q.1 := fun q => by
    have := look_okV ((HL.out.kept (O.keep.trans q.2 (by simp)) (by simp)).maps 5 (by decide)) 117 3 (.int .i64 0) Try.underlying117 (zero3 _) who HWF.out
    rwa [HV5.out] at this
  refine wp_quiet_later (by kernel_rfl) (by kernel_rfl) ?_
  repeat (first
    | go_big_quiet_skip
    | go_big_quiet_step (fail))
  refine wpQuiet_nil ?_
  intro _ hw
  obtain ⟨p', rfl⟩ := hw
  replace O := O.keeps p'.2
  clear c5 cm lk
  generalize p'.1 = W at O ⊢
  go_wp2
  have M2 := Mint.nil w.heap.size W
  obtain ⟨v', hv'⟩ : ∃ v' : Value, v' = .slice none 0 0 := ⟨_, rfl⟩
  have HVV := Lib.hid hv'
  rw [← hv'] at M2
  clear hv'
  have c5 := Later.cell (O.get 0 rfl)
  have cm : ∀ q : Later W, q.1.cell? ⟨p, 1, none⟩ = some (.map (some (mb 4))) := fun q => (HL.out.kept (O.keep.trans q.2 (by simp)) (by simp)).blk.cell 1
  refine wp_quiet_tail_later 7 (by kernel_rfl) (by kernel_rfl) ?_
  simp only [List.take, List.drop]
  repeat (first
    | go_big_quiet_skip
    | go_big_quiet_step (fail))
  refine wpQuiet_nil ?_
  intro _ hw
  obtain ⟨p', rfl⟩ := hw
  replace O := O.keeps p'.2
  replace M2 := M2.keeps p'.2 (by simp)
  clear c5 cm
  generalize p'.1 = W at O M2 ⊢
  refine map_storeV ((HL.out.kept O.keep (by simp)).maps 4 (by decide)) 117 3 Try.underlying117 rfl rfl rfl rfl HWF.out rfl HM.out ?_
  intro u K M
  have L2 := Lib.hid ((HL.out.kept O.keep (by simp)).setOne (Nat.le_refl 4) (by decide) K M)
  have K2 := Lib.hid ((O.keep.wide (L' := [mb 4]) (by simp)).trans K (fun b hb _ => hb))
  have M3 := Lib.hid (M2.keeps K fun g hg hm => by
    obtain ⟨_, _, cur, hb⟩ := M2.own hg
    obtain rfl : g = mb 4 := by simpa using hm
    exact ((HL.out.kept O.keep (by simp)).maps 4 (by decide)).not_blk hb rfl)
  clear M M2
  go_wp2
  go_ret
  exact ⟨_, rfl, by rw [HR.out, ← HVV.out]; exact M3.out, L2.out, K2.out⟩
theorem own_any (hl : LinksAt w F rooms p mb f k m base) (hwf : (Lit.int .i64 who).wf = true) (hm : m < maxLen) : Calls Try.prog 94 #[.pointer (some ⟨p, 0, none⟩), .int .i64 j, .agg #[Value.int .i64 who, .int .i64 op, .int .i64 a, .int .i64 v, .bool sh]] w (OwnPost w F rooms p mb f k m base who j) := by
  cases h4 : k.ones 4 who with
  | some i => exact own_1 hl hwf hm h4
  | none =>
    cases h5 : k.ones 5 who with
    | some i => exact own_2 hl hwf hm h4 h5
    | none => exact own_3 hl hwf hm h4 h5
end
end Go.Proofs.Ytakmcpadkanggaa

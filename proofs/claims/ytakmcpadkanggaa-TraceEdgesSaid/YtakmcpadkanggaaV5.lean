/-
  From where edges lead to an event: (*links).next of trace.
-/
import Derived.Test.YtakmcpadkanggaaV4
import Derived.Test.YtakmcpadkanggaaHeld2
namespace Go.Proofs.Ytakmcpadkanggaa
open Go.RowKit Go.Maps Go.Deep

def LNextPost (w : World) (F : List Nat) (rooms : Value) (p : Nat) (mb : Nat → Nat) (k : Lk) (m base : Nat) (j : Int) (e : Ev) (rm : Int → Int) (x : Ending) (u : World) : Prop :=
  ∃ r F' f', x = .returned r ∧ HRow w.heap.size u r (scL (nextR k rm e)) ∧ LinksAt u F' rooms p mb f' (nextK k j e) (m + 2) base ∧ (∀ b ∈ F', b ∈ F ∨ w.heap.size ≤ b) ∧ (∀ g, r.ownBlock = some g → g ∉ F') ∧ Keeps w u F
section
variable {w W u u1 : World} {F F' : List Nat} {rooms : Value} {p : Nat} {mb : Nat → Nat} {f f1 : Nat → Int → Option Value} {k k1 : Lk} {m m1 base : Nat} {L : List Ent} {r v' : Value} {fr : List Int}
theorem Mint.lower {b b' : Nat} {xs : List Int} (h : Mint b' W r xs) (hb : b ≤ b') : Mint b W r xs := by
  refine ⟨h.1, ?_⟩
  rcases h.2 with hn | ⟨g, cap, cur, rfl, hg, rest⟩
  · exact .inl hn
  · exact .inr ⟨g, cap, cur, rfl, Nat.le_trans hb hg, rest⟩
theorem Own.widen {T : List Nat} (O : Own w W [] L) : Own w W T L := ⟨O.keep.wide (by simp), O.blk, fun q hq hlt => absurd (O.new q hq hlt) (by simp), O.nd⟩
theorem NX.start {b5 : Nat} {cs : Array Value} (O : Own w W [] [(b5, 37, cs)]) (hl : LinksAt w F rooms p mb f k m base) (hb5 : w.heap.size ≤ b5) (hu : LinksAt u F rooms p mb f1 k1 m1 base) (K : Keeps W u [mb 4]) (hM : Mint W.heap.size u r fr) :
    NX w u F F rooms p mb f1 k1 m1 base [(b5, 37, cs)] r fr ∧ ∀ q ∈ [(b5, 37, cs)], r.ownBlock ≠ some q.1 := by
  have hs := O.keep.size
  have hb := (O.blk (b5, 37, cs) (by simp)).lt
  have h4 := hl.inM 4 (by decide)
  have hF : ∀ b ∈ F, b < w.heap.size := fun b hb => (hl.ltF b hb).2
  refine ⟨⟨O.widen.wrote K (fun b hb _ => ?_) (fun q hq hm => ?_), hu, hM.lower hs, fun b hb => .inl hb, hF, fun g hg hm => ?_, fun q hq hm => ?_, hl.inM, hl.blk.lt⟩, fun q hq e => ?_⟩
  · obtain rfl : b = mb 4 := by simpa using hb
    exact h4
  · obtain rfl : q = (b5, 37, cs) := by simpa using hq
    have e : b5 = mb 4 := by simpa using hm
    have := hF _ h4
    omega
  · have := (Mint.own hM hg).1
    have := hF g hm
    omega
  · obtain rfl : q = (b5, 37, cs) := by simpa using hq
    have := hF _ hm
    simp only at this
    omega
  · obtain rfl : q = (b5, 37, cs) := by simpa using hq
    have := (Mint.own hM e).1
    simp only at this hb
    omega
theorem NX.done (M : NX w W F F' rooms p mb f k m base L r fr) (K1 : Keeps W u1 r.ownBlock.toList) (K2 : Keeps u1 u r.ownBlock.toList) (hv : v'.ownBlock = r.ownBlock) :
    LinksAt u F' rooms p mb f k m base ∧ (∀ b ∈ F', b ∈ F ∨ w.heap.size ≤ b) ∧ (∀ g, v'.ownBlock = some g → g ∉ F') ∧ Keeps w u F := by
  have hr : ∀ b ∈ r.ownBlock.toList, w.heap.size ≤ b ∧ b ∉ F' := fun b hb => by
    have hb' : r.ownBlock = some b := by simpa using hb
    exact ⟨(Mint.own M.row hb').1, M.ap b hb'⟩
  have h1 : ∀ b ∈ r.ownBlock.toList, b ∉ F' ∧ b ≠ p := fun b hb => ⟨(hr b hb).2, fun e => by have := (hr b hb).1; have := M.pw; omega⟩
  refine ⟨(M.at_.kept K1 h1).kept K2 h1, M.new, fun g hg => M.ap g (by rw [← hv]; exact hg), (M.own.keep.trans K1 fun b hb hlt => ?_).trans K2 fun b hb hlt => ?_⟩
  · have := (hr b hb).1; omega
  · have := (hr b hb).1; omega
theorem ownL_length (k : Lk) (who : Int) : (ownL k who).length ≤ 1 := by
  unfold ownL
  cases k.ones 4 who with
  | some i => simp
  | none => cases k.ones 5 who <;> simp
theorem sc_length (xs : List Int) : (xs.mergeSort fun x y => decide (x ≤ y)).length = xs.length := List.length_mergeSort _
end
section
variable {w : World} {F : List Nat} {rooms : Value} {p : Nat} {mb : Nat → Nat} {f : Nat → Int → Option Value} {k : Lk} {m base : Nat} {who op a v : Int} {sh : Bool} {j : Int} {rm : Int → Int} {aN : Nat}
set_option maxRecDepth 100000 in
set_option maxHeartbeats 2000000 in
theorem lnext_o (hl : LinksAt w F rooms p mb f k m base) (hwf : (Lit.int .i64 who).wf = true) (hwa : (Lit.int .i64 a).wf = true) (hm : m ≤ 100000) (hb : ∀ i a, (k.rows i a).length ≤ 100000) (h5 : ¬ op = 5) (h6 : ¬ op = 6) (h7 : ¬ op = 7) (h8 : ¬ op = 8) (h9 : ¬ op = 9) (h10 : ¬ op = 10) (h11 : ¬ op = 11) (h14 : ¬ op = 14) :
    Calls Try.prog 70 #[.pointer (some ⟨p, 0, none⟩), .int .i64 j, .agg #[Value.int .i64 who, .int .i64 op, .int .i64 a, .int .i64 v, .bool sh]] w (LNextPost w F rooms p mb k m base j ⟨who, op, a, v, sh⟩ rm) := by
  have O := Own.start w []
  have HL := Lib.hid hl
  have HWF := Lib.hid hwf
  have HWA := Lib.hid hwa
  have HM := Lib.hid hm
  have HB := Lib.hid hb
  have HM1 := Lib.hid (show m < maxLen by simp only [maxLen]; omega)
  have HM2 := Lib.hid (show m + 1 < maxLen by simp only [maxLen]; omega)
  have HN1 := Lib.hid (show nextR k rm ⟨who, op, a, v, sh⟩ = ownL k who by simp [nextR, h5, h6, h8, h11])
  have HN2 := Lib.hid (show nextK k j ⟨who, op, a, v, sh⟩ = ownK k who j by simp [nextK, h5, h6, h7, h8, h9, h10, h14])
  clear hl hwf hwa hm hb
  go_enter Try.func70, Try.ntmps70
  go_wp2_with (first
    | (refine own_boxK 5 (#[Value.int .i64 who, .int .i64 op, .int .i64 a, .int .i64 v, .bool sh]) O rfl rfl rfl rfl ?_; clear O; intro W b5 O _ HB5'; have HB5 := Lib.hid HB5'; clear HB5'; simp only [Act.put, List.setIfInBounds_toArray, List.set_cons_zero, List.set_cons_succ])
    | (refine own_load 13 0 O rfl rfl rfl rfl rfl Try.underlying37 rfl (by kernel_rfl) ?_; simp only [Act.put, List.setIfInBounds_toArray, List.set_cons_zero, List.set_cons_succ])
    | (go_at_call 94; refine (own_any (HL.out.kept O.keep (by simp)) HWF.out HM1.out).mono ?_; rintro e W1 ⟨r, rfl, hM, hL, K⟩; obtain ⟨M, hR⟩ := NX.start O HL.out HB5.out hL K hM; clear O HL hM hL K; have HR := Lib.hid hR; clear hR; have c5 := (M.own.get 0 rfl).cell; have hfr : (ownL k who).length ≤ 1 := ownL_length k who; have HFR := Lib.hid hfr; clear hfr; generalize updN f 4 (updI (f 4) who (some (.int .i64 j))) = f1 at M)
    | go_big_skip)
  have HLEN := Lib.hid (show (ownL k who).length ≤ 1000000 by have := HFR.out; omega)
  go_wp2_with (first
    | (go_at_call 95; refine (sort_mint M.row.hrow HLEN.out).mono ?_; rintro e W4 ⟨rfl, hR1, K1⟩; have HR1 := Lib.hid hR1; have HK1 := Lib.hid K1; clear hR1 K1)
    | (go_at_call 96; refine (compact_row HR1.out (by rw [sc_length]; exact HLEN.out)).mono ?_; rintro e W5 ⟨v2, rfl, e2, hR2, K2⟩; obtain ⟨q1, q2, q3, q4⟩ := M.done HK1.out K2 e2; have HQ := Lib.hid (And.intro hR2 (And.intro q1 (And.intro q2 (And.intro q3 q4)))); clear e2 hR2 K2 q1 q2 q3 q4 M)
    | go_big_skip)
  go_ret
  obtain ⟨q0, q1, q2, q3, q4⟩ := HQ.out
  rw [← HN1.out] at q0
  exact ⟨v2, _, _, rfl, q0, (by rw [HN2.out]; exact q1.mono (by omega)), q2, q3, q4⟩
set_option maxRecDepth 100000 in
set_option maxHeartbeats 2000000 in
theorem lnext_14a (hl : LinksAt w F rooms p mb f k m base) (hwf : (Lit.int .i64 who).wf = true) (hwa : (Lit.int .i64 a).wf = true) (hwv : (Lit.int .i64 v).wf = true) (hm : m ≤ 100000) (hb : ∀ i a, (k.rows i a).length ≤ 100000) (hv : ¬ 0 < v) :
    Calls Try.prog 70 #[.pointer (some ⟨p, 0, none⟩), .int .i64 j, .agg #[Value.int .i64 who, .int .i64 14, .int .i64 a, .int .i64 v, .bool sh]] w (LNextPost w F rooms p mb k m base j ⟨who, 14, a, v, sh⟩ rm) := by
  have O := Own.start w []
  have HL := Lib.hid hl
  have HWF := Lib.hid hwf
  have HWA := Lib.hid hwa
  have HWV := Lib.hid hwv
  have HM := Lib.hid hm
  have HB := Lib.hid hb
  have HM1 := Lib.hid (show m < maxLen by simp only [maxLen]; omega)
  have HM2 := Lib.hid (show m + 1 < maxLen by simp only [maxLen]; omega)
  have HN1 := Lib.hid (show nextR k rm ⟨who, 14, a, v, sh⟩ = ownL k who by simp [nextR])
  have HN2 := Lib.hid (show nextK k j ⟨who, 14, a, v, sh⟩ = ownK k who j by simp [nextK, hv])
  clear hl hwf hwa hwv hm hb
  go_enter Try.func70, Try.ntmps70
  go_wp2_with (first
    | (refine own_boxK 5 (#[Value.int .i64 who, .int .i64 14, .int .i64 a, .int .i64 v, .bool sh]) O rfl rfl rfl rfl ?_; clear O; intro W b5 O _ HB5'; have HB5 := Lib.hid HB5'; clear HB5'; simp only [Act.put, List.setIfInBounds_toArray, List.set_cons_zero, List.set_cons_succ])
    | (refine own_load 13 0 O rfl rfl rfl rfl rfl Try.underlying37 rfl (by kernel_rfl) ?_; simp only [Act.put, List.setIfInBounds_toArray, List.set_cons_zero, List.set_cons_succ])
    | (go_at_call 94; refine (own_any (HL.out.kept O.keep (by simp)) HWF.out HM1.out).mono ?_; rintro e W1 ⟨r, rfl, hM, hL, K⟩; obtain ⟨M, hR⟩ := NX.start O HL.out HB5.out hL K hM; clear O HL hM hL K; have HR := Lib.hid hR; clear hR; have c5 := (M.own.get 0 rfl).cell; have hfr : (ownL k who).length ≤ 1 := ownL_length k who; have HFR := Lib.hid hfr; clear hfr; generalize updN f 4 (updI (f 4) who (some (.int .i64 j))) = f1 at M)
    | go_big_skip)
  have HLEN := Lib.hid (show (ownL k who).length ≤ 1000000 by have := HFR.out; omega)
  go_wp2_with (first
    | (go_at_call 95; refine (sort_mint M.row.hrow HLEN.out).mono ?_; rintro e W4 ⟨rfl, hR1, K1⟩; have HR1 := Lib.hid hR1; have HK1 := Lib.hid K1; clear hR1 K1)
    | (go_at_call 96; refine (compact_row HR1.out (by rw [sc_length]; exact HLEN.out)).mono ?_; rintro e W5 ⟨v2, rfl, e2, hR2, K2⟩; obtain ⟨q1, q2, q3, q4⟩ := M.done HK1.out K2 e2; have HQ := Lib.hid (And.intro hR2 (And.intro q1 (And.intro q2 (And.intro q3 q4)))); clear e2 hR2 K2 q1 q2 q3 q4 M)
    | go_big_skip)
  go_ret
  obtain ⟨q0, q1, q2, q3, q4⟩ := HQ.out
  rw [← HN1.out] at q0
  exact ⟨v2, _, _, rfl, q0, (by rw [HN2.out]; exact q1.mono (by omega)), q2, q3, q4⟩
set_option maxRecDepth 100000 in
set_option maxHeartbeats 2000000 in
theorem lnext_14b (hl : LinksAt w F rooms p mb f k m base) (hwf : (Lit.int .i64 who).wf = true) (hwa : (Lit.int .i64 a).wf = true) (hwv : (Lit.int .i64 v).wf = true) (hm : m ≤ 100000) (hb : ∀ i a, (k.rows i a).length ≤ 100000) (hv : 0 < v) :
    Calls Try.prog 70 #[.pointer (some ⟨p, 0, none⟩), .int .i64 j, .agg #[Value.int .i64 who, .int .i64 14, .int .i64 a, .int .i64 v, .bool sh]] w (LNextPost w F rooms p mb k m base j ⟨who, 14, a, v, sh⟩ rm) := by
  have O := Own.start w []
  have HL := Lib.hid hl
  have HWF := Lib.hid hwf
  have HWA := Lib.hid hwa
  have HWV := Lib.hid hwv
  have HM := Lib.hid hm
  have HB := Lib.hid hb
  have HM1 := Lib.hid (show m < maxLen by simp only [maxLen]; omega)
  have HM2 := Lib.hid (show m + 1 < maxLen by simp only [maxLen]; omega)
  have HN1 := Lib.hid (show nextR k rm ⟨who, 14, a, v, sh⟩ = ownL k who by simp [nextR])
  have HN2 := Lib.hid (show nextK k j ⟨who, 14, a, v, sh⟩ = oneK (ownK k who j) 5 v j by simp [nextK, hv])
  clear hl hwf hwa hwv hm hb
  go_enter Try.func70, Try.ntmps70
  go_wp2_with (first
    | (refine own_boxK 5 (#[Value.int .i64 who, .int .i64 14, .int .i64 a, .int .i64 v, .bool sh]) O rfl rfl rfl rfl ?_; clear O; intro W b5 O _ HB5'; have HB5 := Lib.hid HB5'; clear HB5'; simp only [Act.put, List.setIfInBounds_toArray, List.set_cons_zero, List.set_cons_succ])
    | (refine own_load 13 0 O rfl rfl rfl rfl rfl Try.underlying37 rfl (by kernel_rfl) ?_; simp only [Act.put, List.setIfInBounds_toArray, List.set_cons_zero, List.set_cons_succ])
    | (go_at_call 94; refine (own_any (HL.out.kept O.keep (by simp)) HWF.out HM1.out).mono ?_; rintro e W1 ⟨r, rfl, hM, hL, K⟩; obtain ⟨M, hR⟩ := NX.start O HL.out HB5.out hL K hM; clear O HL hM hL K; have HR := Lib.hid hR; clear hR; have c5 := (M.own.get 0 rfl).cell; have hfr : (ownL k who).length ≤ 1 := ownL_length k who; have HFR := Lib.hid hfr; clear hfr; generalize updN f 4 (updI (f 4) who (some (.int .i64 j))) = f1 at M)
    | go_big_skip)
  go_wp2
  clear c5
  have c5 := Later.cell (M.own.get 0 rfl)
  have cm : ∀ q : Later _, q.1.cell? ⟨p, 2, none⟩ = some (.map (some (mb 5))) := fun q => (M.kept q.2).at_.blk.cell 2
  refine wp_quiet_tail_later 7 (by kernel_rfl) (by kernel_rfl) ?_
  simp only [List.take, List.drop]
  repeat (first
    | go_big_quiet_skip
    | go_big_quiet_step (fail))
  refine wpQuiet_nil ?_
  intro _ hw
  obtain ⟨p', rfl⟩ := hw
  replace M := M.kept p'.2
  clear c5 cm
  generalize p'.1 = W3 at M ⊢
  refine nx_one 5 v j 117 (.tmp 25) (.tmp 27) (.tmp 28) M (by decide) (by decide) rfl Try.underlying117 rfl rfl rfl rfl HWV.out HM2.out ?_
  clear M
  intro W M
  simp only [Act.put]
  have HLEN := Lib.hid (show (ownL k who).length ≤ 1000000 by have := HFR.out; omega)
  go_wp2_with (first
    | (go_at_call 95; refine (sort_mint M.row.hrow HLEN.out).mono ?_; rintro e W4 ⟨rfl, hR1, K1⟩; have HR1 := Lib.hid hR1; have HK1 := Lib.hid K1; clear hR1 K1)
    | (go_at_call 96; refine (compact_row HR1.out (by rw [sc_length]; exact HLEN.out)).mono ?_; rintro e W5 ⟨v2, rfl, e2, hR2, K2⟩; obtain ⟨q1, q2, q3, q4⟩ := M.done HK1.out K2 e2; have HQ := Lib.hid (And.intro hR2 (And.intro q1 (And.intro q2 (And.intro q3 q4)))); clear e2 hR2 K2 q1 q2 q3 q4 M)
    | go_big_skip)
  go_ret
  obtain ⟨q0, q1, q2, q3, q4⟩ := HQ.out
  rw [← HN1.out] at q0
  exact ⟨v2, _, _, rfl, q0, (by rw [HN2.out]; exact q1), q2, q3, q4⟩
set_option maxRecDepth 100000 in
set_option maxHeartbeats 2000000 in
theorem lnext_9 (hl : LinksAt w F rooms p mb f k m base) (hwf : (Lit.int .i64 who).wf = true) (hwa : (Lit.int .i64 a).wf = true) (hm : m ≤ 100000) (hb : ∀ i a, (k.rows i a).length ≤ 100000)  :
    Calls Try.prog 70 #[.pointer (some ⟨p, 0, none⟩), .int .i64 j, .agg #[Value.int .i64 who, .int .i64 9, .int .i64 a, .int .i64 v, .bool sh]] w (LNextPost w F rooms p mb k m base j ⟨who, 9, a, v, sh⟩ rm) := by
  have O := Own.start w []
  have HL := Lib.hid hl
  have HWF := Lib.hid hwf
  have HWA := Lib.hid hwa
  have HM := Lib.hid hm
  have HB := Lib.hid hb
  have HM1 := Lib.hid (show m < maxLen by simp only [maxLen]; omega)
  have HM2 := Lib.hid (show m + 1 < maxLen by simp only [maxLen]; omega)
  have HN1 := Lib.hid (show nextR k rm ⟨who, 9, a, v, sh⟩ = ownL k who by simp [nextR])
  have HN2 := Lib.hid (show nextK k j ⟨who, 9, a, v, sh⟩ = pushK (ownK k who j) 2 a j by simp [nextK])
  clear hl hwf hwa hm hb
  go_enter Try.func70, Try.ntmps70
  go_wp2_with (first
    | (refine own_boxK 5 (#[Value.int .i64 who, .int .i64 9, .int .i64 a, .int .i64 v, .bool sh]) O rfl rfl rfl rfl ?_; clear O; intro W b5 O _ HB5'; have HB5 := Lib.hid HB5'; clear HB5'; simp only [Act.put, List.setIfInBounds_toArray, List.set_cons_zero, List.set_cons_succ])
    | (refine own_load 13 0 O rfl rfl rfl rfl rfl Try.underlying37 rfl (by kernel_rfl) ?_; simp only [Act.put, List.setIfInBounds_toArray, List.set_cons_zero, List.set_cons_succ])
    | (go_at_call 94; refine (own_any (HL.out.kept O.keep (by simp)) HWF.out HM1.out).mono ?_; rintro e W1 ⟨r, rfl, hM, hL, K⟩; obtain ⟨M, hR⟩ := NX.start O HL.out HB5.out hL K hM; clear O HL hM hL K; have HR := Lib.hid hR; clear hR; have c5 := (M.own.get 0 rfl).cell; have hfr : (ownL k who).length ≤ 1 := ownL_length k who; have HFR := Lib.hid hfr; clear hfr; generalize updN f 4 (updI (f 4) who (some (.int .i64 j))) = f1 at M)
    | go_big_skip)
  go_wp2
  clear c5
  refine wp_headH (S := fun u => S3 u p (rooms) mb f1 (m + 1) b5 (#[Value.int .i64 who, .int .i64 9, .int .i64 a, .int .i64 v, .bool sh]) ∧ True) 16 (by kernel_rfl) (by kernel_rfl) ?_
  replace M := M.kept (Keeps.refl _ _).drew
  refine ah_take (f := 2) (L' := #[true, true, true, true, true, true, true, true, true, true, true, true, true, true, false, false, false]) (⟨by first | exact NX.s3 M (by simp) | exact PX.s3 M (by decide) (by simp), True.intro⟩) [0, 1, 2, 3, 4, 5, 6, 7, 8, 9, 10, 11, 12, 13] [_, _, _, _, _, _, _, _, _, _, _, _, _, _] _ _ rfl (by decide) (by kernel_rfl) ?_
  simp only [List.getElem_toArray, List.getElem_cons_zero, List.getElem_cons_succ]
  repeat (first
    | (refine take_pure (v := ?_) (by rfl) ?_ ?_; rotate_left; (· (intro w hSw; have c5 := (S3.ev (And.left hSw)).cell; have cm : w.cell? ⟨p, 6, none⟩ = some (.map (some (mb 2))) := (S3.blk (And.left hSw)).cell 6; have lk : (Instr.lookup 159 (.map (some (mb 2))) (.int .i64 a) false).run Try.prog w = .ok (rowV f1 2 a) w := (by have := look_eqV ((S3.maps (And.left hSw)) 2 (by decide)) 159 25 (.slice none 0 0) Try.underlying159 (zero25 _) (a) HWA.out; exact this); clear hSw; go_simp; try with_reducible rfl)); simp only [Act.put, List.setIfInBounds_toArray, List.set_cons_zero, List.set_cons_succ]))
  refine takeA_done ?_
  refine ah_sole 14 #[true, true, true, true, true, true, true, true, true, true, true, true, true, true, true, false, false] rfl (by decide) (by kernel_rfl) ?_
  try simp only [List.getElem_toArray, List.getElem_cons_zero, List.getElem_cons_succ]
  refine nx_lit 180 j M rfl rfl rfl rfl ?_; clear M; intro W gl M; simp only [Act.put, List.setIfInBounds_toArray, List.set_cons_zero, List.set_cons_succ]
  (first | refine backA_intro2 (⟨by first | exact NX.s3 M (by simp) | exact PX.s3 M (by decide) (by simp), True.intro⟩) ?_ | refine backA_intro (⟨by first | exact NX.s3 M (by simp) | exact PX.s3 M (by decide) (by simp), True.intro⟩) ?_)
  refine ah_sole 15 #[true, true, true, true, true, true, true, true, true, true, true, true, true, true, true, true, false] rfl (by decide) (by kernel_rfl) ?_
  try simp only [List.getElem_toArray, List.getElem_cons_zero, List.getElem_cons_succ]
  go_wp2_with (at_builtin; refine nx_app 2 a j gl (.tmp 178) (.tmp 180) M (by decide) rfl rfl rfl rfl (Nat.le_trans (HB.out 2 a) (by decide)) ?_; clear M; intro v' W M; simp only [Act.put, List.setIfInBounds_toArray, List.set_cons_zero, List.set_cons_succ])
  (first | refine backA_intro2 (⟨by first | exact NX.s3 M (by simp) | exact PX.s3 M (by decide) (by simp), True.intro⟩) ?_ | refine backA_intro (⟨by first | exact NX.s3 M (by simp) | exact PX.s3 M (by decide) (by simp), True.intro⟩) ?_)
  refine ah_tail (by kernel_rfl) ?_
  try simp only [List.drop]
  refine nx_upd 2 a v' _ 159 (.tmp 169) (.tmp 171) (.tmp 181) M (by decide) rfl Try.underlying159 rfl rfl rfl rfl HWA.out HM2.out ?_
  clear M
  intro W F2 M
  simp only [Act.put]
  have c5 := (M.own.get 0 rfl).cell
  refine np_intro ?_
  have HLEN := Lib.hid (show (ownL k who).length ≤ 1000000 by have := HFR.out; omega)
  go_wp2_with (first
    | (go_at_call 95; refine (sort_mint M.row.hrow HLEN.out).mono ?_; rintro e W4 ⟨rfl, hR1, K1⟩; have HR1 := Lib.hid hR1; have HK1 := Lib.hid K1; clear hR1 K1)
    | (go_at_call 96; refine (compact_row HR1.out (by rw [sc_length]; exact HLEN.out)).mono ?_; rintro e W5 ⟨v2, rfl, e2, hR2, K2⟩; obtain ⟨q1, q2, q3, q4⟩ := M.done HK1.out K2 e2; have HQ := Lib.hid (And.intro hR2 (And.intro q1 (And.intro q2 (And.intro q3 q4)))); clear e2 hR2 K2 q1 q2 q3 q4 M)
    | go_big_skip)
  go_ret
  obtain ⟨q0, q1, q2, q3, q4⟩ := HQ.out
  rw [← HN1.out] at q0
  exact ⟨v2, _, _, rfl, q0, (by rw [HN2.out]; exact q1), q2, q3, q4⟩
set_option maxRecDepth 100000 in
set_option maxHeartbeats 2000000 in
theorem lnext_10 (hl : LinksAt w F rooms p mb f k m base) (hwf : (Lit.int .i64 who).wf = true) (hwa : (Lit.int .i64 a).wf = true) (hm : m ≤ 100000) (hb : ∀ i a, (k.rows i a).length ≤ 100000)  :
    Calls Try.prog 70 #[.pointer (some ⟨p, 0, none⟩), .int .i64 j, .agg #[Value.int .i64 who, .int .i64 10, .int .i64 a, .int .i64 v, .bool sh]] w (LNextPost w F rooms p mb k m base j ⟨who, 10, a, v, sh⟩ rm) := by
  have O := Own.start w []
  have HL := Lib.hid hl
  have HWF := Lib.hid hwf
  have HWA := Lib.hid hwa
  have HM := Lib.hid hm
  have HB := Lib.hid hb
  have HM1 := Lib.hid (show m < maxLen by simp only [maxLen]; omega)
  have HM2 := Lib.hid (show m + 1 < maxLen by simp only [maxLen]; omega)
  have HN1 := Lib.hid (show nextR k rm ⟨who, 10, a, v, sh⟩ = ownL k who by simp [nextR])
  have HN2 := Lib.hid (show nextK k j ⟨who, 10, a, v, sh⟩ = pushK (ownK k who j) 3 a j by simp [nextK])
  clear hl hwf hwa hm hb
  go_enter Try.func70, Try.ntmps70
  go_wp2_with (first
    | (refine own_boxK 5 (#[Value.int .i64 who, .int .i64 10, .int .i64 a, .int .i64 v, .bool sh]) O rfl rfl rfl rfl ?_; clear O; intro W b5 O _ HB5'; have HB5 := Lib.hid HB5'; clear HB5'; simp only [Act.put, List.setIfInBounds_toArray, List.set_cons_zero, List.set_cons_succ])
    | (refine own_load 13 0 O rfl rfl rfl rfl rfl Try.underlying37 rfl (by kernel_rfl) ?_; simp only [Act.put, List.setIfInBounds_toArray, List.set_cons_zero, List.set_cons_succ])
    | (go_at_call 94; refine (own_any (HL.out.kept O.keep (by simp)) HWF.out HM1.out).mono ?_; rintro e W1 ⟨r, rfl, hM, hL, K⟩; obtain ⟨M, hR⟩ := NX.start O HL.out HB5.out hL K hM; clear O HL hM hL K; have HR := Lib.hid hR; clear hR; have c5 := (M.own.get 0 rfl).cell; have hfr : (ownL k who).length ≤ 1 := ownL_length k who; have HFR := Lib.hid hfr; clear hfr; generalize updN f 4 (updI (f 4) who (some (.int .i64 j))) = f1 at M)
    | go_big_skip)
  go_wp2
  clear c5
  refine wp_headH (S := fun u => S3 u p (rooms) mb f1 (m + 1) b5 (#[Value.int .i64 who, .int .i64 10, .int .i64 a, .int .i64 v, .bool sh]) ∧ True) 16 (by kernel_rfl) (by kernel_rfl) ?_
  replace M := M.kept (Keeps.refl _ _).drew
  refine ah_take (f := 2) (L' := #[true, true, true, true, true, true, true, true, true, true, true, true, true, true, false, false, false]) (⟨by first | exact NX.s3 M (by simp) | exact PX.s3 M (by decide) (by simp), True.intro⟩) [0, 1, 2, 3, 4, 5, 6, 7, 8, 9, 10, 11, 12, 13] [_, _, _, _, _, _, _, _, _, _, _, _, _, _] _ _ rfl (by decide) (by kernel_rfl) ?_
  simp only [List.getElem_toArray, List.getElem_cons_zero, List.getElem_cons_succ]
  repeat (first
    | (refine take_pure (v := ?_) (by rfl) ?_ ?_; rotate_left; (· (intro w hSw; have c5 := (S3.ev (And.left hSw)).cell; have cm : w.cell? ⟨p, 7, none⟩ = some (.map (some (mb 3))) := (S3.blk (And.left hSw)).cell 7; have lk : (Instr.lookup 159 (.map (some (mb 3))) (.int .i64 a) false).run Try.prog w = .ok (rowV f1 3 a) w := (by have := look_eqV ((S3.maps (And.left hSw)) 3 (by decide)) 159 25 (.slice none 0 0) Try.underlying159 (zero25 _) (a) HWA.out; exact this); clear hSw; go_simp; try with_reducible rfl)); simp only [Act.put, List.setIfInBounds_toArray, List.set_cons_zero, List.set_cons_succ]))
  refine takeA_done ?_
  refine ah_sole 14 #[true, true, true, true, true, true, true, true, true, true, true, true, true, true, true, false, false] rfl (by decide) (by kernel_rfl) ?_
  try simp only [List.getElem_toArray, List.getElem_cons_zero, List.getElem_cons_succ]
  refine nx_lit 215 j M rfl rfl rfl rfl ?_; clear M; intro W gl M; simp only [Act.put, List.setIfInBounds_toArray, List.set_cons_zero, List.set_cons_succ]
  (first | refine backA_intro2 (⟨by first | exact NX.s3 M (by simp) | exact PX.s3 M (by decide) (by simp), True.intro⟩) ?_ | refine backA_intro (⟨by first | exact NX.s3 M (by simp) | exact PX.s3 M (by decide) (by simp), True.intro⟩) ?_)
  refine ah_sole 15 #[true, true, true, true, true, true, true, true, true, true, true, true, true, true, true, true, false] rfl (by decide) (by kernel_rfl) ?_
  try simp only [List.getElem_toArray, List.getElem_cons_zero, List.getElem_cons_succ]
  go_wp2_with (at_builtin; refine nx_app 3 a j gl (.tmp 213) (.tmp 215) M (by decide) rfl rfl rfl rfl (Nat.le_trans (HB.out 3 a) (by decide)) ?_; clear M; intro v' W M; simp only [Act.put, List.setIfInBounds_toArray, List.set_cons_zero, List.set_cons_succ])
  (first | refine backA_intro2 (⟨by first | exact NX.s3 M (by simp) | exact PX.s3 M (by decide) (by simp), True.intro⟩) ?_ | refine backA_intro (⟨by first | exact NX.s3 M (by simp) | exact PX.s3 M (by decide) (by simp), True.intro⟩) ?_)
  refine ah_tail (by kernel_rfl) ?_
  try simp only [List.drop]
  refine nx_upd 3 a v' _ 159 (.tmp 204) (.tmp 206) (.tmp 216) M (by decide) rfl Try.underlying159 rfl rfl rfl rfl HWA.out HM2.out ?_
  clear M
  intro W F2 M
  simp only [Act.put]
  have c5 := (M.own.get 0 rfl).cell
  refine np_intro ?_
  have HLEN := Lib.hid (show (ownL k who).length ≤ 1000000 by have := HFR.out; omega)
  go_wp2_with (first
    | (go_at_call 95; refine (sort_mint M.row.hrow HLEN.out).mono ?_; rintro e W4 ⟨rfl, hR1, K1⟩; have HR1 := Lib.hid hR1; have HK1 := Lib.hid K1; clear hR1 K1)
    | (go_at_call 96; refine (compact_row HR1.out (by rw [sc_length]; exact HLEN.out)).mono ?_; rintro e W5 ⟨v2, rfl, e2, hR2, K2⟩; obtain ⟨q1, q2, q3, q4⟩ := M.done HK1.out K2 e2; have HQ := Lib.hid (And.intro hR2 (And.intro q1 (And.intro q2 (And.intro q3 q4)))); clear e2 hR2 K2 q1 q2 q3 q4 M)
    | go_big_skip)
  go_ret
  obtain ⟨q0, q1, q2, q3, q4⟩ := HQ.out
  rw [← HN1.out] at q0
  exact ⟨v2, _, _, rfl, q0, (by rw [HN2.out]; exact q1), q2, q3, q4⟩
set_option maxRecDepth 100000 in
set_option maxHeartbeats 2000000 in
theorem lnext_11 (hl : LinksAt w F rooms p mb f k m base) (hwf : (Lit.int .i64 who).wf = true) (hwa : (Lit.int .i64 a).wf = true) (hm : m ≤ 100000) (hb : ∀ i a, (k.rows i a).length ≤ 100000)  :
    Calls Try.prog 70 #[.pointer (some ⟨p, 0, none⟩), .int .i64 j, .agg #[Value.int .i64 who, .int .i64 11, .int .i64 a, .int .i64 v, .bool sh]] w (LNextPost w F rooms p mb k m base j ⟨who, 11, a, v, sh⟩ rm) := by
  have O := Own.start w []
  have HL := Lib.hid hl
  have HWF := Lib.hid hwf
  have HWA := Lib.hid hwa
  have HM := Lib.hid hm
  have HB := Lib.hid hb
  have HM1 := Lib.hid (show m < maxLen by simp only [maxLen]; omega)
  have HM2 := Lib.hid (show m + 1 < maxLen by simp only [maxLen]; omega)
  have HN1 := Lib.hid (show nextR k rm ⟨who, 11, a, v, sh⟩ = ownL k who ++ k.rows 3 a by simp [nextR])
  have HN2 := Lib.hid (show nextK k j ⟨who, 11, a, v, sh⟩ = ownK k who j by simp [nextK])
  clear hl hwf hwa hm hb
  go_enter Try.func70, Try.ntmps70
  go_wp2_with (first
    | (refine own_boxK 5 (#[Value.int .i64 who, .int .i64 11, .int .i64 a, .int .i64 v, .bool sh]) O rfl rfl rfl rfl ?_; clear O; intro W b5 O _ HB5'; have HB5 := Lib.hid HB5'; clear HB5'; simp only [Act.put, List.setIfInBounds_toArray, List.set_cons_zero, List.set_cons_succ])
    | (refine own_load 13 0 O rfl rfl rfl rfl rfl Try.underlying37 rfl (by kernel_rfl) ?_; simp only [Act.put, List.setIfInBounds_toArray, List.set_cons_zero, List.set_cons_succ])
    | (go_at_call 94; refine (own_any (HL.out.kept O.keep (by simp)) HWF.out HM1.out).mono ?_; rintro e W1 ⟨r, rfl, hM, hL, K⟩; obtain ⟨M, hR⟩ := NX.start O HL.out HB5.out hL K hM; clear O HL hM hL K; have HR := Lib.hid hR; clear hR; have c5 := (M.own.get 0 rfl).cell; have hfr : (ownL k who).length ≤ 1 := ownL_length k who; have HFR := Lib.hid hfr; clear hfr; generalize updN f 4 (updI (f 4) who (some (.int .i64 j))) = f1 at M)
    | go_big_skip)
  go_wp2
  clear c5
  have c5 := Later.cell (M.own.get 0 rfl)
  have cm : ∀ q : Later _, q.1.cell? ⟨p, 7, none⟩ = some (.map (some (mb 3))) := fun q => (M.kept q.2).at_.blk.cell 7
  have lk : ∀ q : Later _, (Instr.lookup 159 (.map (some (mb 3))) (.int .i64 a) false).run Try.prog q.1 = .ok (rowV f1 3 a) q.1 := fun q => by
    have := look_eqV ((M.kept q.2).at_.maps 3 (by decide)) 159 25 (.slice none 0 0) Try.underlying159 (zero25 _) (a) HWA.out
    exact this
  refine wp_quiet_tail_later 8 (by kernel_rfl) (by kernel_rfl) ?_
  simp only [List.take, List.drop]
  repeat (first
    | go_big_quiet_skip
    | go_big_quiet_step (fail))
  refine wpQuiet_nil ?_
  intro _ hw
  obtain ⟨p', rfl⟩ := hw
  replace M := M.kept p'.2
  clear c5 cm lk
  generalize p'.1 = W3 at M ⊢
  go_wp2_with (first
    | (at_builtin; refine nx_from (rowV f1 3 a) (k.rows 3 a) (.tmp 219) (.tmp 226) M rfl rfl rfl rfl (M.at_.rows 3 (by decide) a).listL.1 (M.at_.rows 3 (by decide) a).listL.2 HR.out (by have := HFR.out; have := HB.out 3 a; omega) ?_; clear M HR; intro v' W M hR; simp only [Act.put, List.setIfInBounds_toArray, List.set_cons_zero, List.set_cons_succ])
    | go_big_skip)
  have HLEN := Lib.hid (show (ownL k who ++ k.rows 3 a).length ≤ 1000000 by have := HFR.out; have := HB.out 3 a; rw [List.length_append]; omega)
  go_wp2_with (first
    | (go_at_call 95; refine (sort_mint M.row.hrow HLEN.out).mono ?_; rintro e W4 ⟨rfl, hR1, K1⟩; have HR1 := Lib.hid hR1; have HK1 := Lib.hid K1; clear hR1 K1)
    | (go_at_call 96; refine (compact_row HR1.out (by rw [sc_length]; exact HLEN.out)).mono ?_; rintro e W5 ⟨v2, rfl, e2, hR2, K2⟩; obtain ⟨q1, q2, q3, q4⟩ := M.done HK1.out K2 e2; have HQ := Lib.hid (And.intro hR2 (And.intro q1 (And.intro q2 (And.intro q3 q4)))); clear e2 hR2 K2 q1 q2 q3 q4 M)
    | go_big_skip)
  go_ret
  obtain ⟨q0, q1, q2, q3, q4⟩ := HQ.out
  rw [← HN1.out] at q0
  exact ⟨v2, _, _, rfl, q0, (by rw [HN2.out]; exact q1.mono (by omega)), q2, q3, q4⟩
set_option maxRecDepth 100000 in
set_option maxHeartbeats 2000000 in
theorem lnext_8 (hl : LinksAt w F rooms p mb f k m base) (hwf : (Lit.int .i64 who).wf = true) (hwa : (Lit.int .i64 a).wf = true) (hm : m ≤ 100000) (hb : ∀ i a, (k.rows i a).length ≤ 100000)  :
    Calls Try.prog 70 #[.pointer (some ⟨p, 0, none⟩), .int .i64 j, .agg #[Value.int .i64 who, .int .i64 8, .int .i64 a, .int .i64 v, .bool sh]] w (LNextPost w F rooms p mb k m base j ⟨who, 8, a, v, sh⟩ rm) := by
  have O := Own.start w []
  have HL := Lib.hid hl
  have HWF := Lib.hid hwf
  have HWA := Lib.hid hwa
  have HM := Lib.hid hm
  have HB := Lib.hid hb
  have HM1 := Lib.hid (show m < maxLen by simp only [maxLen]; omega)
  have HM2 := Lib.hid (show m + 1 < maxLen by simp only [maxLen]; omega)
  have HN1 := Lib.hid (show nextR k rm ⟨who, 8, a, v, sh⟩ = ownL k who ++ k.rows 2 a by simp [nextR])
  have HN2 := Lib.hid (show nextK k j ⟨who, 8, a, v, sh⟩ = ⟨updN (ownK k who j).rows 2 (updI ((ownK k who j).rows 2) a []), (ownK k who j).ones⟩ by simp [nextK])
  clear hl hwf hwa hm hb
  go_enter Try.func70, Try.ntmps70
  go_wp2_with (first
    | (refine own_boxK 5 (#[Value.int .i64 who, .int .i64 8, .int .i64 a, .int .i64 v, .bool sh]) O rfl rfl rfl rfl ?_; clear O; intro W b5 O _ HB5'; have HB5 := Lib.hid HB5'; clear HB5'; simp only [Act.put, List.setIfInBounds_toArray, List.set_cons_zero, List.set_cons_succ])
    | (refine own_load 13 0 O rfl rfl rfl rfl rfl Try.underlying37 rfl (by kernel_rfl) ?_; simp only [Act.put, List.setIfInBounds_toArray, List.set_cons_zero, List.set_cons_succ])
    | (go_at_call 94; refine (own_any (HL.out.kept O.keep (by simp)) HWF.out HM1.out).mono ?_; rintro e W1 ⟨r, rfl, hM, hL, K⟩; obtain ⟨M, hR⟩ := NX.start O HL.out HB5.out hL K hM; clear O HL hM hL K; have HR := Lib.hid hR; clear hR; have c5 := (M.own.get 0 rfl).cell; have hfr : (ownL k who).length ≤ 1 := ownL_length k who; have HFR := Lib.hid hfr; clear hfr; generalize updN f 4 (updI (f 4) who (some (.int .i64 j))) = f1 at M)
    | go_big_skip)
  go_wp2
  clear c5
  have c5 := Later.cell (M.own.get 0 rfl)
  have cm : ∀ q : Later _, q.1.cell? ⟨p, 6, none⟩ = some (.map (some (mb 2))) := fun q => (M.kept q.2).at_.blk.cell 6
  have lk : ∀ q : Later _, (Instr.lookup 159 (.map (some (mb 2))) (.int .i64 a) false).run Try.prog q.1 = .ok (rowV f1 2 a) q.1 := fun q => by
    have := look_eqV ((M.kept q.2).at_.maps 2 (by decide)) 159 25 (.slice none 0 0) Try.underlying159 (zero25 _) (a) HWA.out
    exact this
  refine wp_quiet_tail_later 8 (by kernel_rfl) (by kernel_rfl) ?_
  simp only [List.take, List.drop]
  repeat (first
    | go_big_quiet_skip
    | go_big_quiet_step (fail))
  refine wpQuiet_nil ?_
  intro _ hw
  obtain ⟨p', rfl⟩ := hw
  replace M := M.kept p'.2
  clear c5 cm lk
  generalize p'.1 = W3 at M ⊢
  go_wp2_with (first
    | (at_builtin; refine nx_from (rowV f1 2 a) (k.rows 2 a) (.tmp 184) (.tmp 191) M rfl rfl rfl rfl (M.at_.rows 2 (by decide) a).listL.1 (M.at_.rows 2 (by decide) a).listL.2 HR.out (by have := HFR.out; have := HB.out 2 a; omega) ?_; clear M HR; intro v' W M hR; simp only [Act.put, List.setIfInBounds_toArray, List.set_cons_zero, List.set_cons_succ]; have c5 := (M.own.get 0 rfl).cell)
    | go_big_skip)
  go_wp2
  clear c5
  have c5 := Later.cell (M.own.get 0 rfl)
  have cm : ∀ q : Later _, q.1.cell? ⟨p, 6, none⟩ = some (.map (some (mb 2))) := fun q => (M.kept q.2).at_.blk.cell 6
  refine wp_quiet_tail_later 6 (by kernel_rfl) (by kernel_rfl) ?_
  simp only [List.take, List.drop]
  repeat (first
    | go_big_quiet_skip
    | go_big_quiet_step (fail))
  refine wpQuiet_nil ?_
  intro _ hw
  obtain ⟨p', rfl⟩ := hw
  replace M := M.kept p'.2
  clear c5 cm
  generalize p'.1 = W3 at M ⊢
  refine nx_clear 2 a 159 (.tmp 196) (.tmp 198) (.const (.slice none 0 0)) M (by decide) rfl Try.underlying159 rfl rfl rfl rfl HWA.out HM2.out ?_
  clear M
  intro W M
  simp only [Act.put]
  have HLEN := Lib.hid (show (ownL k who ++ k.rows 2 a).length ≤ 1000000 by have := HFR.out; have := HB.out 2 a; rw [List.length_append]; omega)
  go_wp2_with (first
    | (go_at_call 95; refine (sort_mint M.row.hrow HLEN.out).mono ?_; rintro e W4 ⟨rfl, hR1, K1⟩; have HR1 := Lib.hid hR1; have HK1 := Lib.hid K1; clear hR1 K1)
    | (go_at_call 96; refine (compact_row HR1.out (by rw [sc_length]; exact HLEN.out)).mono ?_; rintro e W5 ⟨v2, rfl, e2, hR2, K2⟩; obtain ⟨q1, q2, q3, q4⟩ := M.done HK1.out K2 e2; have HQ := Lib.hid (And.intro hR2 (And.intro q1 (And.intro q2 (And.intro q3 q4)))); clear e2 hR2 K2 q1 q2 q3 q4 M)
    | go_big_skip)
  go_ret
  obtain ⟨q0, q1, q2, q3, q4⟩ := HQ.out
  rw [← HN1.out] at q0
  exact ⟨v2, _, _, rfl, q0, (by rw [HN2.out]; exact q1), q2, q3, q4⟩
set_option maxRecDepth 100000 in
set_option maxHeartbeats 2000000 in
theorem lnext_7a (hl : LinksAt w F rooms p mb f k m base) (hwf : (Lit.int .i64 who).wf = true) (hwa : (Lit.int .i64 a).wf = true) (hm : m ≤ 100000) (hb : ∀ i a, (k.rows i a).length ≤ 100000) {i : Int} (h6 : k.ones 6 a = some i) :
    Calls Try.prog 70 #[.pointer (some ⟨p, 0, none⟩), .int .i64 j, .agg #[Value.int .i64 who, .int .i64 7, .int .i64 a, .int .i64 v, .bool sh]] w (LNextPost w F rooms p mb k m base j ⟨who, 7, a, v, sh⟩ rm) := by
  have O := Own.start w []
  have HL := Lib.hid hl
  have HWF := Lib.hid hwf
  have HWA := Lib.hid hwa
  have HM := Lib.hid hm
  have HB := Lib.hid hb
  have HM1 := Lib.hid (show m < maxLen by simp only [maxLen]; omega)
  have HM2 := Lib.hid (show m + 1 < maxLen by simp only [maxLen]; omega)
  have HN1 := Lib.hid (show nextR k rm ⟨who, 7, a, v, sh⟩ = ownL k who by simp [nextR])
  have HN2 := Lib.hid (show nextK k j ⟨who, 7, a, v, sh⟩ = ownK k who j by simp [nextK, h6])
  have H6 := Lib.hid h6
  clear h6
  clear hl hwf hwa hm hb
  go_enter Try.func70, Try.ntmps70
  go_wp2_with (first
    | (refine own_boxK 5 (#[Value.int .i64 who, .int .i64 7, .int .i64 a, .int .i64 v, .bool sh]) O rfl rfl rfl rfl ?_; clear O; intro W b5 O _ HB5'; have HB5 := Lib.hid HB5'; clear HB5'; simp only [Act.put, List.setIfInBounds_toArray, List.set_cons_zero, List.set_cons_succ])
    | (refine own_load 13 0 O rfl rfl rfl rfl rfl Try.underlying37 rfl (by kernel_rfl) ?_; simp only [Act.put, List.setIfInBounds_toArray, List.set_cons_zero, List.set_cons_succ])
    | (go_at_call 94; refine (own_any (HL.out.kept O.keep (by simp)) HWF.out HM1.out).mono ?_; rintro e W1 ⟨r, rfl, hM, hL, K⟩; obtain ⟨M, hR⟩ := NX.start O HL.out HB5.out hL K hM; clear O HL hM hL K; have HR := Lib.hid hR; clear hR; have c5 := (M.own.get 0 rfl).cell; have hfr : (ownL k who).length ≤ 1 := ownL_length k who; have HFR := Lib.hid hfr; clear hfr; generalize updN f 4 (updI (f 4) who (some (.int .i64 j))) = f1 at M)
    | go_big_skip)
  have HF6 := Lib.hid (show f1 6 a = some (.int .i64 i) from (M.at_.ones 6 (by decide) (by decide) a).trans (by show (k.ones 6 a).map (Value.int .i64) = _; rw [H6.out]; rfl))
  go_wp2
  clear c5
  have c5 := Later.cell (M.own.get 0 rfl)
  have cm : ∀ q : Later _, q.1.cell? ⟨p, 5, none⟩ = some (.map (some (mb 6))) := fun q => (M.kept q.2).at_.blk.cell 5
  have lk : ∀ q : Later _, (Instr.lookup 117 (.map (some (mb 6))) (.int .i64 a) true).run Try.prog q.1 = .ok (.tuple #[.int .i64 i, .bool true]) q.1 := fun q => by
    have := look_okV ((M.kept q.2).at_.maps 6 (by decide)) 117 3 (.int .i64 0) Try.underlying117 (zero3 _) (a) HWA.out
    rwa [HF6.out] at this
  refine wp_quiet_later (by kernel_rfl) (by kernel_rfl) ?_
  repeat (first
    | go_big_quiet_skip
    | go_big_quiet_step (fail))
  refine wpQuiet_nil ?_
  intro _ hw
  obtain ⟨p', rfl⟩ := hw
  replace M := M.kept p'.2
  clear c5 cm lk
  generalize p'.1 = W3 at M ⊢
  have HLEN := Lib.hid (show (ownL k who).length ≤ 1000000 by have := HFR.out; omega)
  go_wp2_with (first
    | (go_at_call 95; refine (sort_mint M.row.hrow HLEN.out).mono ?_; rintro e W4 ⟨rfl, hR1, K1⟩; have HR1 := Lib.hid hR1; have HK1 := Lib.hid K1; clear hR1 K1)
    | (go_at_call 96; refine (compact_row HR1.out (by rw [sc_length]; exact HLEN.out)).mono ?_; rintro e W5 ⟨v2, rfl, e2, hR2, K2⟩; obtain ⟨q1, q2, q3, q4⟩ := M.done HK1.out K2 e2; have HQ := Lib.hid (And.intro hR2 (And.intro q1 (And.intro q2 (And.intro q3 q4)))); clear e2 hR2 K2 q1 q2 q3 q4 M)
    | go_big_skip)
  go_ret
  obtain ⟨q0, q1, q2, q3, q4⟩ := HQ.out
  rw [← HN1.out] at q0
  exact ⟨v2, _, _, rfl, q0, (by rw [HN2.out]; exact q1.mono (by omega)), q2, q3, q4⟩
set_option maxRecDepth 100000 in
set_option maxHeartbeats 2000000 in
theorem lnext_7b (hl : LinksAt w F rooms p mb f k m base) (hwf : (Lit.int .i64 who).wf = true) (hwa : (Lit.int .i64 a).wf = true) (hm : m ≤ 100000) (hb : ∀ i a, (k.rows i a).length ≤ 100000) (h6 : k.ones 6 a = none) :
    Calls Try.prog 70 #[.pointer (some ⟨p, 0, none⟩), .int .i64 j, .agg #[Value.int .i64 who, .int .i64 7, .int .i64 a, .int .i64 v, .bool sh]] w (LNextPost w F rooms p mb k m base j ⟨who, 7, a, v, sh⟩ rm) := by
  have O := Own.start w []
  have HL := Lib.hid hl
  have HWF := Lib.hid hwf
  have HWA := Lib.hid hwa
  have HM := Lib.hid hm
  have HB := Lib.hid hb
  have HM1 := Lib.hid (show m < maxLen by simp only [maxLen]; omega)
  have HM2 := Lib.hid (show m + 1 < maxLen by simp only [maxLen]; omega)
  have HN1 := Lib.hid (show nextR k rm ⟨who, 7, a, v, sh⟩ = ownL k who by simp [nextR])
  have HN2 := Lib.hid (show nextK k j ⟨who, 7, a, v, sh⟩ = oneK (ownK k who j) 6 a j by simp [nextK, h6])
  have H6 := Lib.hid h6
  clear h6
  clear hl hwf hwa hm hb
  go_enter Try.func70, Try.ntmps70
  go_wp2_with (first
    | (refine own_boxK 5 (#[Value.int .i64 who, .int .i64 7, .int .i64 a, .int .i64 v, .bool sh]) O rfl rfl rfl rfl ?_; clear O; intro W b5 O _ HB5'; have HB5 := Lib.hid HB5'; clear HB5'; simp only [Act.put, List.setIfInBounds_toArray, List.set_cons_zero, List.set_cons_succ])
    | (refine own_load 13 0 O rfl rfl rfl rfl rfl Try.underlying37 rfl (by kernel_rfl) ?_; simp only [Act.put, List.setIfInBounds_toArray, List.set_cons_zero, List.set_cons_succ])
    | (go_at_call 94; refine (own_any (HL.out.kept O.keep (by simp)) HWF.out HM1.out).mono ?_; rintro e W1 ⟨r, rfl, hM, hL, K⟩; obtain ⟨M, hR⟩ := NX.start O HL.out HB5.out hL K hM; clear O HL hM hL K; have HR := Lib.hid hR; clear hR; have c5 := (M.own.get 0 rfl).cell; have hfr : (ownL k who).length ≤ 1 := ownL_length k who; have HFR := Lib.hid hfr; clear hfr; generalize updN f 4 (updI (f 4) who (some (.int .i64 j))) = f1 at M)
    | go_big_skip)
  have HF6 := Lib.hid (show f1 6 a = none from (M.at_.ones 6 (by decide) (by decide) a).trans (by show (k.ones 6 a).map (Value.int .i64) = _; rw [H6.out]; rfl))
  go_wp2
  clear c5
  have c5 := Later.cell (M.own.get 0 rfl)
  have cm : ∀ q : Later _, q.1.cell? ⟨p, 5, none⟩ = some (.map (some (mb 6))) := fun q => (M.kept q.2).at_.blk.cell 5
  have lk : ∀ q : Later _, (Instr.lookup 117 (.map (some (mb 6))) (.int .i64 a) true).run Try.prog q.1 = .ok (.tuple #[.int .i64 0, .bool false]) q.1 := fun q => by
    have := look_okV ((M.kept q.2).at_.maps 6 (by decide)) 117 3 (.int .i64 0) Try.underlying117 (zero3 _) (a) HWA.out
    rwa [HF6.out] at this
  refine wp_quiet_later (by kernel_rfl) (by kernel_rfl) ?_
  repeat (first
    | go_big_quiet_skip
    | go_big_quiet_step (fail))
  refine wpQuiet_nil ?_
  intro _ hw
  obtain ⟨p', rfl⟩ := hw
  replace M := M.kept p'.2
  clear c5 cm lk
  generalize p'.1 = W3 at M ⊢
  have c5 := (M.own.get 0 rfl).cell
  go_wp2
  clear c5
  have c5 := Later.cell (M.own.get 0 rfl)
  have cm : ∀ q : Later _, q.1.cell? ⟨p, 5, none⟩ = some (.map (some (mb 6))) := fun q => (M.kept q.2).at_.blk.cell 5
  refine wp_quiet_tail_later 7 (by kernel_rfl) (by kernel_rfl) ?_
  simp only [List.take, List.drop]
  repeat (first
    | go_big_quiet_skip
    | go_big_quiet_step (fail))
  refine wpQuiet_nil ?_
  intro _ hw
  obtain ⟨p', rfl⟩ := hw
  replace M := M.kept p'.2
  clear c5 cm
  generalize p'.1 = W3 at M ⊢
  refine nx_one 6 a j 117 (.tmp 160) (.tmp 162) (.tmp 163) M (by decide) (by decide) rfl Try.underlying117 rfl rfl rfl rfl HWA.out HM2.out ?_
  clear M
  intro W M
  simp only [Act.put]
  have HLEN := Lib.hid (show (ownL k who).length ≤ 1000000 by have := HFR.out; omega)
  go_wp2_with (first
    | (go_at_call 95; refine (sort_mint M.row.hrow HLEN.out).mono ?_; rintro e W4 ⟨rfl, hR1, K1⟩; have HR1 := Lib.hid hR1; have HK1 := Lib.hid K1; clear hR1 K1)
    | (go_at_call 96; refine (compact_row HR1.out (by rw [sc_length]; exact HLEN.out)).mono ?_; rintro e W5 ⟨v2, rfl, e2, hR2, K2⟩; obtain ⟨q1, q2, q3, q4⟩ := M.done HK1.out K2 e2; have HQ := Lib.hid (And.intro hR2 (And.intro q1 (And.intro q2 (And.intro q3 q4)))); clear e2 hR2 K2 q1 q2 q3 q4 M)
    | go_big_skip)
  go_ret
  obtain ⟨q0, q1, q2, q3, q4⟩ := HQ.out
  rw [← HN1.out] at q0
  exact ⟨v2, _, _, rfl, q0, (by rw [HN2.out]; exact q1), q2, q3, q4⟩
set_option maxRecDepth 100000 in
set_option maxHeartbeats 2000000 in
theorem lnext_6s (hl : LinksAt w F rooms p mb f k m base) (hwf : (Lit.int .i64 who).wf = true) (hwa : (Lit.int .i64 a).wf = true) (hm : m ≤ 100000) (hb : ∀ i a, (k.rows i a).length ≤ 100000) {c6 : Int} (h6 : (k.ones 6 a).getD 0 = c6) :
    Calls Try.prog 70 #[.pointer (some ⟨p, 0, none⟩), .int .i64 j, .agg #[Value.int .i64 who, .int .i64 6, .int .i64 a, .int .i64 v, .bool true]] w (LNextPost w F rooms p mb k m base j ⟨who, 6, a, v, true⟩ rm) := by
  have O := Own.start w []
  have HL := Lib.hid hl
  have HWF := Lib.hid hwf
  have HWA := Lib.hid hwa
  have HM := Lib.hid hm
  have HB := Lib.hid hb
  have HM1 := Lib.hid (show m < maxLen by simp only [maxLen]; omega)
  have HM2 := Lib.hid (show m + 1 < maxLen by simp only [maxLen]; omega)
  have HN1 := Lib.hid (show nextR k rm ⟨who, 6, a, v, true⟩ = ownL k who ++ [c6] by simp [nextR, h6])
  have HN2 := Lib.hid (show nextK k j ⟨who, 6, a, v, true⟩ = ownK k who j by simp [nextK])
  have H6 := Lib.hid h6
  clear h6
  clear hl hwf hwa hm hb
  go_enter Try.func70, Try.ntmps70
  go_wp2_with (first
    | (refine own_boxK 5 (#[Value.int .i64 who, .int .i64 6, .int .i64 a, .int .i64 v, .bool true]) O rfl rfl rfl rfl ?_; clear O; intro W b5 O _ HB5'; have HB5 := Lib.hid HB5'; clear HB5'; simp only [Act.put, List.setIfInBounds_toArray, List.set_cons_zero, List.set_cons_succ])
    | (refine own_load 13 0 O rfl rfl rfl rfl rfl Try.underlying37 rfl (by kernel_rfl) ?_; simp only [Act.put, List.setIfInBounds_toArray, List.set_cons_zero, List.set_cons_succ])
    | (go_at_call 94; refine (own_any (HL.out.kept O.keep (by simp)) HWF.out HM1.out).mono ?_; rintro e W1 ⟨r, rfl, hM, hL, K⟩; obtain ⟨M, hR⟩ := NX.start O HL.out HB5.out hL K hM; clear O HL hM hL K; have HR := Lib.hid hR; clear hR; have c5 := (M.own.get 0 rfl).cell; have hfr : (ownL k who).length ≤ 1 := ownL_length k who; have HFR := Lib.hid hfr; clear hfr; generalize updN f 4 (updI (f 4) who (some (.int .i64 j))) = f1 at M)
    | go_big_skip)
  have HC6 := Lib.hid (show (f1 6 a).getD (Value.int .i64 0) = .int .i64 c6 by rw [show f1 6 a = (k.ones 6 a).map (Value.int .i64) from M.at_.ones 6 (by decide) (by decide) a, ← H6.out]; cases k.ones 6 a <;> rfl)
  go_wp2
  clear c5
  refine wp_headH (S := fun u => S3 u p (rooms) mb f1 (m + 1) b5 (#[Value.int .i64 who, .int .i64 6, .int .i64 a, .int .i64 v, .bool true]) ∧ True) 10 (by kernel_rfl) (by kernel_rfl) ?_
  replace M := M.kept (Keeps.refl _ _).drew
  refine ah_take (f := 2) (L' := #[true, true, true, true, true, true, true, true, false, false, false]) (⟨by first | exact NX.s3 M (by simp) | exact PX.s3 M (by decide) (by simp), True.intro⟩) [0, 1, 2, 3, 4, 5, 6, 7] [_, _, _, _, _, _, _, _] _ _ rfl (by decide) (by kernel_rfl) ?_
  simp only [List.getElem_toArray, List.getElem_cons_zero, List.getElem_cons_succ]
  repeat (first
    | (refine take_pure (v := ?_) (by rfl) ?_ ?_; rotate_left; (· (intro w hSw; have c5 := (S3.ev (And.left hSw)).cell; have cm : w.cell? ⟨p, 5, none⟩ = some (.map (some (mb 6))) := (S3.blk (And.left hSw)).cell 5; have lk : (Instr.lookup 117 (.map (some (mb 6))) (.int .i64 a) false).run Try.prog w = .ok (.int .i64 c6) w := (by have := look_eqV ((S3.maps (And.left hSw)) 6 (by decide)) 117 3 (.int .i64 0) Try.underlying117 (zero3 _) (a) HWA.out; rwa [HC6.out] at this); clear hSw; go_simp; try with_reducible rfl)); simp only [Act.put, List.setIfInBounds_toArray, List.set_cons_zero, List.set_cons_succ]))
  refine takeA_done ?_
  refine ah_sole 8 #[true, true, true, true, true, true, true, true, true, false, false] rfl (by decide) (by kernel_rfl) ?_
  try simp only [List.getElem_toArray, List.getElem_cons_zero, List.getElem_cons_succ]
  refine nx_lit 104 c6 M rfl rfl rfl rfl ?_; clear M; intro W gl M; simp only [Act.put, List.setIfInBounds_toArray, List.set_cons_zero, List.set_cons_succ]
  (first | refine backA_intro2 (⟨by first | exact NX.s3 M (by simp) | exact PX.s3 M (by decide) (by simp), True.intro⟩) ?_ | refine backA_intro (⟨by first | exact NX.s3 M (by simp) | exact PX.s3 M (by decide) (by simp), True.intro⟩) ?_)
  refine ah_sole 9 #[true, true, true, true, true, true, true, true, true, true, false] rfl (by decide) (by kernel_rfl) ?_
  try simp only [List.getElem_toArray, List.getElem_cons_zero, List.getElem_cons_succ]
  go_wp2_with (at_builtin; refine nx_from1 c6 gl (.tmp 96) (.tmp 104) M rfl rfl rfl rfl HR.out (by have := HFR.out; omega) ?_; clear M HR; intro v' W M hR; simp only [Act.put, List.setIfInBounds_toArray, List.set_cons_zero, List.set_cons_succ])
  (first | refine backA_intro2 (⟨by first | exact NX.s3 M (by simp) | exact PX.s3 M (by decide) (by simp), True.intro⟩) ?_ | refine backA_intro (⟨by first | exact NX.s3 M (by simp) | exact PX.s3 M (by decide) (by simp), True.intro⟩) ?_)
  refine ah_tail (by kernel_rfl) ?_
  try simp only [List.drop]
  go_wp2_with (first | go_big_skip)
  refine np_intro ?_
  have HLEN := Lib.hid (show (ownL k who ++ [c6]).length ≤ 1000000 by have := HFR.out; rw [List.length_append]; simp; omega)
  go_wp2_with (first
    | (go_at_call 95; refine (sort_mint M.row.hrow HLEN.out).mono ?_; rintro e W4 ⟨rfl, hR1, K1⟩; have HR1 := Lib.hid hR1; have HK1 := Lib.hid K1; clear hR1 K1)
    | (go_at_call 96; refine (compact_row HR1.out (by rw [sc_length]; exact HLEN.out)).mono ?_; rintro e W5 ⟨v2, rfl, e2, hR2, K2⟩; obtain ⟨q1, q2, q3, q4⟩ := M.done HK1.out K2 e2; have HQ := Lib.hid (And.intro hR2 (And.intro q1 (And.intro q2 (And.intro q3 q4)))); clear e2 hR2 K2 q1 q2 q3 q4 M)
    | go_big_skip)
  go_ret
  obtain ⟨q0, q1, q2, q3, q4⟩ := HQ.out
  rw [← HN1.out] at q0
  exact ⟨v2, _, _, rfl, q0, (by rw [HN2.out]; exact q1.mono (by omega)), q2, q3, q4⟩
set_option maxRecDepth 100000 in
set_option maxHeartbeats 2000000 in
theorem lnext_6t (hl : LinksAt w F rooms p mb f k m base) (hwf : (Lit.int .i64 who).wf = true) (hwa : (Lit.int .i64 a).wf = true) (hm : m ≤ 100000) (hb : ∀ i a, (k.rows i a).length ≤ 100000) (h6 : (k.rows 1 a).length < (k.rows 0 a).length) :
    Calls Try.prog 70 #[.pointer (some ⟨p, 0, none⟩), .int .i64 j, .agg #[Value.int .i64 who, .int .i64 6, .int .i64 a, .int .i64 v, .bool false]] w (LNextPost w F rooms p mb k m base j ⟨who, 6, a, v, false⟩ rm) := by
  have O := Own.start w []
  have HL := Lib.hid hl
  have HWF := Lib.hid hwf
  have HWA := Lib.hid hwa
  have HM := Lib.hid hm
  have HB := Lib.hid hb
  have HM1 := Lib.hid (show m < maxLen by simp only [maxLen]; omega)
  have HM2 := Lib.hid (show m + 1 < maxLen by simp only [maxLen]; omega)
  have HN1 := Lib.hid (show nextR k rm ⟨who, 6, a, v, false⟩ = ownL k who ++ [(k.rows 0 a).getD (k.rows 1 a).length 0] by simp [nextR])
  have HN2 := Lib.hid (show nextK k j ⟨who, 6, a, v, false⟩ = pushK (ownK k who j) 1 a j by simp [nextK])
  have H6 := Lib.hid h6
  clear h6
  clear hl hwf hwa hm hb
  go_enter Try.func70, Try.ntmps70
  go_wp2_with (first
    | (refine own_boxK 5 (#[Value.int .i64 who, .int .i64 6, .int .i64 a, .int .i64 v, .bool false]) O rfl rfl rfl rfl ?_; clear O; intro W b5 O _ HB5'; have HB5 := Lib.hid HB5'; clear HB5'; simp only [Act.put, List.setIfInBounds_toArray, List.set_cons_zero, List.set_cons_succ])
    | (refine own_load 13 0 O rfl rfl rfl rfl rfl Try.underlying37 rfl (by kernel_rfl) ?_; simp only [Act.put, List.setIfInBounds_toArray, List.set_cons_zero, List.set_cons_succ])
    | (go_at_call 94; refine (own_any (HL.out.kept O.keep (by simp)) HWF.out HM1.out).mono ?_; rintro e W1 ⟨r, rfl, hM, hL, K⟩; obtain ⟨M, hR⟩ := NX.start O HL.out HB5.out hL K hM; clear O HL hM hL K; have HR := Lib.hid hR; clear hR; have c5 := (M.own.get 0 rfl).cell; have hfr : (ownL k who).length ≤ 1 := ownL_length k who; have HFR := Lib.hid hfr; clear hfr; generalize updN f 4 (updI (f 4) who (some (.int .i64 j))) = f1 at M)
    | go_big_skip)
  go_wp2
  clear c5
  refine wp_headH (S := fun u => S3 u p (rooms) mb f1 (m + 1) b5 (#[Value.int .i64 who, .int .i64 6, .int .i64 a, .int .i64 v, .bool false]) ∧ True) 16 (by kernel_rfl) (by kernel_rfl) ?_
  replace M := M.kept (Keeps.refl _ _).drew
  refine ah_take (f := 2) (L' := #[true, true, true, true, true, true, true, true, true, true, true, true, true, true, false, false, false]) (⟨by first | exact NX.s3 M (by simp) | exact PX.s3 M (by decide) (by simp), True.intro⟩) [0, 1, 2, 3, 4, 5, 6, 7, 8, 9, 10, 11, 12, 13] [_, _, _, _, _, _, _, _, _, _, _, _, _, _] _ _ rfl (by decide) (by kernel_rfl) ?_
  simp only [List.getElem_toArray, List.getElem_cons_zero, List.getElem_cons_succ]
  repeat (first
    | (refine take_pure (v := ?_) (by rfl) ?_ ?_; rotate_left; (· (intro w hSw; have c5 := (S3.ev (And.left hSw)).cell; have cm : w.cell? ⟨p, 4, none⟩ = some (.map (some (mb 1))) := (S3.blk (And.left hSw)).cell 4; have lk : (Instr.lookup 159 (.map (some (mb 1))) (.int .i64 a) false).run Try.prog w = .ok (rowV f1 1 a) w := (by have := look_eqV ((S3.maps (And.left hSw)) 1 (by decide)) 159 25 (.slice none 0 0) Try.underlying159 (zero25 _) (a) HWA.out; exact this); clear hSw; go_simp; try with_reducible rfl)); simp only [Act.put, List.setIfInBounds_toArray, List.set_cons_zero, List.set_cons_succ]))
  refine takeA_done ?_
  refine ah_sole 14 #[true, true, true, true, true, true, true, true, true, true, true, true, true, true, true, false, false] rfl (by decide) (by kernel_rfl) ?_
  try simp only [List.getElem_toArray, List.getElem_cons_zero, List.getElem_cons_succ]
  refine nx_lit 120 j M rfl rfl rfl rfl ?_; clear M; intro W gl M; simp only [Act.put, List.setIfInBounds_toArray, List.set_cons_zero, List.set_cons_succ]
  (first | refine backA_intro2 (⟨by first | exact NX.s3 M (by simp) | exact PX.s3 M (by decide) (by simp), True.intro⟩) ?_ | refine backA_intro (⟨by first | exact NX.s3 M (by simp) | exact PX.s3 M (by decide) (by simp), True.intro⟩) ?_)
  refine ah_sole 15 #[true, true, true, true, true, true, true, true, true, true, true, true, true, true, true, true, false] rfl (by decide) (by kernel_rfl) ?_
  try simp only [List.getElem_toArray, List.getElem_cons_zero, List.getElem_cons_succ]
  go_wp2_with (at_builtin; refine nx_app 1 a j gl (.tmp 118) (.tmp 120) M (by decide) rfl rfl rfl rfl (Nat.le_trans (HB.out 1 a) (by decide)) ?_; clear M; intro v' W M; simp only [Act.put, List.setIfInBounds_toArray, List.set_cons_zero, List.set_cons_succ])
  (first | refine backA_intro2 (⟨by first | exact NX.s3 M (by simp) | exact PX.s3 M (by decide) (by simp), True.intro⟩) ?_ | refine backA_intro (⟨by first | exact NX.s3 M (by simp) | exact PX.s3 M (by decide) (by simp), True.intro⟩) ?_)
  refine ah_tail (by kernel_rfl) ?_
  try simp only [List.drop]
  refine nx_upd 1 a v' _ 159 (.tmp 109) (.tmp 111) (.tmp 121) M (by decide) rfl Try.underlying159 rfl rfl rfl rfl HWA.out HM2.out ?_
  clear M
  intro W F2 M
  simp only [Act.put]
  have c5 := (M.own.get 0 rfl).cell
  refine np_intro ?_
  generalize updN f1 1 (updI (f1 1) a (some v')) = f2 at M
  obtain ⟨A0, q0, e0, hx0⟩ := (M.at_.rows 0 (by decide) a).shape
  obtain ⟨A1, q1, e1, _⟩ := (M.at_.rows 1 (by decide) a).shape
  obtain ⟨ads, rfl, hcell⟩ := hx0 (k.rows 1 a).length H6.out
  obtain ⟨nt, hnt⟩ : ∃ nt, nt = (k.rows 1 a).length := ⟨_, rfl⟩
  obtain ⟨n1, hn1⟩ : ∃ n1, n1 = nt + 1 := ⟨_, rfl⟩
  obtain ⟨ns, hns⟩ : ∃ ns, ns = (k.rows 0 a).length := ⟨_, rfl⟩
  obtain ⟨y, hy⟩ : ∃ y, y = (k.rows 0 a).getD nt 0 := ⟨_, rfl⟩
  have HE0 := Lib.hid (show rowV f2 0 a = .slice (some ads) ns q0 by rw [e0, hns]; rfl)
  have HE1 := Lib.hid (show rowV f2 1 a = .slice A1 n1 q1 by rw [e1, hn1, hnt]; simp [updN, updI, ownK])
  have HY := Lib.hid (show y = (k.rows 0 a).getD (k.rows 1 a).length 0 by rw [hy, hnt])
  have g1 : (nt : Int) < (ns : Int) := by have := H6.out; omega
  have g0 : (0 : Int) ≤ (nt : Int) := by omega
  have r1 : IntKind.i64.wrap ((n1 : Int) - 1) = (nt : Int) := by
    rw [show (n1 : Int) - 1 = (nt : Int) by omega]
    exact IntWalk.i64_in _ (by have := HB.out 1 a; omega)
  have HX := Lib.hid (show ∀ u L r fr F2 m, NX w u F F2 rooms p mb f2 (pushK (ownK k who j) 1 a j) m base L r fr → u.cell? (ads.add nt) = some (.int .i64 y) from fun u L r fr F2 m M => by
    have h := M.at_.rows 0 (by decide) a
    rw [HE0.out] at h
    have h2 := h.cellOf (q := nt) (show nt < (k.rows 0 a).length by rw [hnt]; exact H6.out)
    rw [h2, hy]
    rfl)
  clear e0 e1 hx0 hcell hy hns hn1 hnt
  go_wp2
  clear c5
  refine wp_headH (S := fun u => S3 u p (rooms) mb f2 (m + 1 + 1) b5 (#[Value.int .i64 who, .int .i64 6, .int .i64 a, .int .i64 v, .bool false]) ∧ u.cell? (ads.add nt) = some (.int .i64 y)) 21 (by kernel_rfl) (by kernel_rfl) ?_
  replace M := M.kept (Keeps.refl _ _).drew
  refine ah_take (f := 2) (L' := #[true, true, true, true, true, true, true, true, true, true, true, true, true, true, true, true, true, true, true, false, false, false]) (⟨by first | exact NX.s3 M (by simp) | exact PX.s3 M (by decide) (by simp), by first | exact HX.out _ _ _ _ _ _ M⟩) [0, 1, 2, 3, 4, 5, 6, 7, 8, 9, 10, 11, 12, 13, 14, 15, 16, 17, 18] [_, _, _, _, _, _, _, _, _, _, _, _, _, _, _, _, _, _, _] _ _ rfl (by decide) (by kernel_rfl) ?_
  simp only [List.getElem_toArray, List.getElem_cons_zero, List.getElem_cons_succ]
  repeat (first
    | (refine take_pure (v := ?_) (by rfl) ?_ ?_; rotate_left; (· (intro w hSw; have c5 := (S3.ev (And.left hSw)).cell; have cm0 : w.cell? ⟨p, 3, none⟩ = some (.map (some (mb 0))) := (S3.blk (And.left hSw)).cell 3; have cm1 : w.cell? ⟨p, 4, none⟩ = some (.map (some (mb 1))) := (S3.blk (And.left hSw)).cell 4; have lk0 : (Instr.lookup 159 (.map (some (mb 0))) (.int .i64 a) false).run Try.prog w = .ok (.slice (some ads) ns q0) w := (by have := look_eqV ((S3.maps (And.left hSw)) 0 (by decide)) 159 25 (.slice none 0 0) Try.underlying159 (zero25 _) (a) HWA.out; rw [show (f2 0 a).getD (.slice none 0 0) = .slice (some ads) ns q0 from HE0.out] at this; exact this); have lk1 : (Instr.lookup 159 (.map (some (mb 1))) (.int .i64 a) false).run Try.prog w = .ok (.slice A1 n1 q1) w := (by have := look_eqV ((S3.maps (And.left hSw)) 1 (by decide)) 159 25 (.slice none 0 0) Try.underlying159 (zero25 _) (a) HWA.out; rw [show (f2 1 a).getD (.slice none 0 0) = .slice A1 n1 q1 from HE1.out] at this; exact this); have ck := And.right hSw; clear hSw; go_simp; try with_reducible rfl)); simp only [Act.put, List.setIfInBounds_toArray, List.set_cons_zero, List.set_cons_succ]))
  refine takeA_done ?_
  refine ah_sole 19 #[true, true, true, true, true, true, true, true, true, true, true, true, true, true, true, true, true, true, true, true, false, false] rfl (by decide) (by kernel_rfl) ?_
  try simp only [List.getElem_toArray, List.getElem_cons_zero, List.getElem_cons_succ]
  refine nx_lit 141 y M rfl rfl rfl rfl ?_; clear M; intro W gl M; simp only [Act.put, List.setIfInBounds_toArray, List.set_cons_zero, List.set_cons_succ]
  (first | refine backA_intro2 (⟨by first | exact NX.s3 M (by simp) | exact PX.s3 M (by decide) (by simp), by first | exact HX.out _ _ _ _ _ _ M⟩) ?_ | refine backA_intro (⟨by first | exact NX.s3 M (by simp) | exact PX.s3 M (by decide) (by simp), by first | exact HX.out _ _ _ _ _ _ M⟩) ?_)
  refine ah_sole 20 #[true, true, true, true, true, true, true, true, true, true, true, true, true, true, true, true, true, true, true, true, true, false] rfl (by decide) (by kernel_rfl) ?_
  try simp only [List.getElem_toArray, List.getElem_cons_zero, List.getElem_cons_succ]
  go_wp2_with (at_builtin; refine nx_from1 y gl (.tmp 122) (.tmp 141) M rfl rfl rfl rfl HR.out (by have := HFR.out; omega) ?_; clear M HR; intro v' W M hR; simp only [Act.put, List.setIfInBounds_toArray, List.set_cons_zero, List.set_cons_succ])
  (first | refine backA_intro2 (⟨by first | exact NX.s3 M (by simp) | exact PX.s3 M (by decide) (by simp), by first | exact HX.out _ _ _ _ _ _ M⟩) ?_ | refine backA_intro (⟨by first | exact NX.s3 M (by simp) | exact PX.s3 M (by decide) (by simp), by first | exact HX.out _ _ _ _ _ _ M⟩) ?_)
  refine ah_tail (by kernel_rfl) ?_
  try simp only [List.drop]
  have HN3 := Lib.hid (show nextR k rm ⟨who, 6, a, v, false⟩ = ownL k who ++ [y] from HN1.out.trans (by rw [← HY.out]))
  go_wp2_with (first | go_big_skip)
  refine np_intro ?_
  have HLEN := Lib.hid (show (ownL k who ++ [y]).length ≤ 1000000 by have := HFR.out; rw [List.length_append]; simp; omega)
  go_wp2_with (first
    | (go_at_call 95; refine (sort_mint M.row.hrow HLEN.out).mono ?_; rintro e W4 ⟨rfl, hR1, K1⟩; have HR1 := Lib.hid hR1; have HK1 := Lib.hid K1; clear hR1 K1)
    | (go_at_call 96; refine (compact_row HR1.out (by rw [sc_length]; exact HLEN.out)).mono ?_; rintro e W5 ⟨v2, rfl, e2, hR2, K2⟩; obtain ⟨q1, q2, q3, q4⟩ := M.done HK1.out K2 e2; have HQ := Lib.hid (And.intro hR2 (And.intro q1 (And.intro q2 (And.intro q3 q4)))); clear e2 hR2 K2 q1 q2 q3 q4 M)
    | go_big_skip)
  go_ret
  obtain ⟨q0, q1, q2, q3, q4⟩ := HQ.out
  rw [← HN3.out] at q0
  exact ⟨v2, _, _, rfl, q0, (by rw [HN2.out]; exact q1), q2, q3, q4⟩
set_option maxRecDepth 100000 in
set_option maxHeartbeats 2000000 in
theorem lnext_5a (hl : LinksAt w F rooms p mb f k m base) (hwf : (Lit.int .i64 who).wf = true) (hwa : (Lit.int .i64 (aN : Int)).wf = true) (hm : m ≤ 100000) (hb : ∀ i a, (k.rows i a).length ≤ 100000) {rad : Addr} {nr d : Nat} (hrm : rooms = .slice (some rad) nr d) (hrb : rad.block < base) (hrc : w.cell? (rad.add aN) = some (.int .i64 (rm aN))) (haN : aN < nr) (hrr : -1000 ≤ rm aN ∧ rm aN ≤ 1000000) (hcase : ((k.rows 0 (aN : Int)).length + 1 : Nat) - rm aN < 1) :
    Calls Try.prog 70 #[.pointer (some ⟨p, 0, none⟩), .int .i64 j, .agg #[Value.int .i64 who, .int .i64 5, .int .i64 (aN : Int), .int .i64 v, .bool sh]] w (LNextPost w F rooms p mb k m base j ⟨who, 5, (aN : Int), v, sh⟩ rm) := by
  have O := Own.start w []
  have HL := Lib.hid hl
  have HWF := Lib.hid hwf
  have HWA := Lib.hid hwa
  have HM := Lib.hid hm
  have HB := Lib.hid hb
  have HM1 := Lib.hid (show m < maxLen by simp only [maxLen]; omega)
  have HM2 := Lib.hid (show m + 1 < maxLen by simp only [maxLen]; omega)
  subst hrm
  have HN2 := Lib.hid (show nextK k j ⟨who, 5, (aN : Int), v, sh⟩ = pushK (ownK k who j) 0 (aN : Int) j by simp [nextK])
  obtain ⟨nt, hnt⟩ : ∃ nt, nt = (k.rows 1 (aN : Int)).length := ⟨_, rfl⟩
  obtain ⟨s1, hs1⟩ : ∃ s1, s1 = (k.rows 0 (aN : Int)).length + 1 := ⟨_, rfl⟩
  obtain ⟨rma, hrma⟩ : ∃ rma, rma = rm aN := ⟨_, rfl⟩
  obtain ⟨nn, hnn⟩ : ∃ nn, nn = (s1 : Int) - rma := ⟨_, rfl⟩
  have HS1 := Lib.hid (And.intro hs1 hnt)
  rw [← hs1, ← hrma, ← hnn] at hcase
  rw [← hrma] at hrc hrr
  have HN1 := Lib.hid (show nextR k rm ⟨who, 5, (aN : Int), v, sh⟩ = ownL k who by simp only [nextR, if_true]; rw [if_neg (by rw [← hs1, ← hrma, ← hnn, ← hnt]; omega), List.append_nil])
  have q8 : decide ((1 : Int) ≤ nn) = false := decide_eq_false (by omega)
  have q7 : ¬ (1 : Int) ≤ nn := by omega
  have r1 : IntKind.i64.wrap ((s1 : Int) - rma) = nn := by
    rw [← hnn]
    exact IntWalk.i64_in _ (by have := hb 0 (aN : Int); omega)
  have g9 : (0 : Int) ≤ (aN : Int) := by omega
  have g8 : (aN : Int) < (nr : Int) := by omega
  have HRC := Lib.hid (show ∀ u, Keeps w u F → u.cell? (rad.add aN) = some (.int .i64 rma) from fun u K => by
    have h1 : rad.block < w.heap.size := by have := World.block_lt_of_cell? w _ hrc; rwa [add_block] at this
    rw [K.cellAt (by rw [add_block]; exact h1) (by rw [add_block]; intro hm; have := (hl.ltF _ hm).1; omega)]
    exact hrc)
  clear hs1 hnt hrma hnn hrc hrr hrb haN hcase
  clear hl hwf hwa hm hb
  go_enter Try.func70, Try.ntmps70
  go_wp2_with (first
    | (refine own_boxK 5 (#[Value.int .i64 who, .int .i64 5, .int .i64 (aN : Int), .int .i64 v, .bool sh]) O rfl rfl rfl rfl ?_; clear O; intro W b5 O _ HB5'; have HB5 := Lib.hid HB5'; clear HB5'; simp only [Act.put, List.setIfInBounds_toArray, List.set_cons_zero, List.set_cons_succ])
    | (refine own_load 13 0 O rfl rfl rfl rfl rfl Try.underlying37 rfl (by kernel_rfl) ?_; simp only [Act.put, List.setIfInBounds_toArray, List.set_cons_zero, List.set_cons_succ])
    | (go_at_call 94; refine (own_any (HL.out.kept O.keep (by simp)) HWF.out HM1.out).mono ?_; rintro e W1 ⟨r, rfl, hM, hL, K⟩; obtain ⟨M, hR⟩ := NX.start O HL.out HB5.out hL K hM; clear O HL hM hL K; have HR := Lib.hid hR; clear hR; have c5 := (M.own.get 0 rfl).cell; have hfr : (ownL k who).length ≤ 1 := ownL_length k who; have HFR := Lib.hid hfr; clear hfr; generalize updN f 4 (updI (f 4) who (some (.int .i64 j))) = f1 at M)
    | go_big_skip)
  go_wp2
  clear c5
  refine wp_headH (S := fun u => S3 u p (.slice (some rad) nr d) mb f1 (m + 1) b5 (#[Value.int .i64 who, .int .i64 5, .int .i64 (aN : Int), .int .i64 v, .bool sh]) ∧ True) 16 (by kernel_rfl) (by kernel_rfl) ?_
  replace M := M.kept (Keeps.refl _ _).drew
  refine ah_take (f := 2) (L' := #[true, true, true, true, true, true, true, true, true, true, true, true, true, true, false, false, false]) (⟨by first | exact NX.s3 M (by simp) | exact PX.s3 M (by decide) (by simp), True.intro⟩) [0, 1, 2, 3, 4, 5, 6, 7, 8, 9, 10, 11, 12, 13] [_, _, _, _, _, _, _, _, _, _, _, _, _, _] _ _ rfl (by decide) (by kernel_rfl) ?_
  simp only [List.getElem_toArray, List.getElem_cons_zero, List.getElem_cons_succ]
  repeat (first
    | (refine take_pure (v := ?_) (by rfl) ?_ ?_; rotate_left; (· (intro w hSw; have c5 := (S3.ev (And.left hSw)).cell; have cm : w.cell? ⟨p, 3, none⟩ = some (.map (some (mb 0))) := (S3.blk (And.left hSw)).cell 3; have lk : (Instr.lookup 159 (.map (some (mb 0))) (.int .i64 (aN : Int)) false).run Try.prog w = .ok (rowV f1 0 (aN : Int)) w := (by have := look_eqV ((S3.maps (And.left hSw)) 0 (by decide)) 159 25 (.slice none 0 0) Try.underlying159 (zero25 _) ((aN : Int)) HWA.out; exact this); clear hSw; go_simp; try with_reducible rfl)); simp only [Act.put, List.setIfInBounds_toArray, List.set_cons_zero, List.set_cons_succ]))
  refine takeA_done ?_
  refine ah_sole 14 #[true, true, true, true, true, true, true, true, true, true, true, true, true, true, true, false, false] rfl (by decide) (by kernel_rfl) ?_
  try simp only [List.getElem_toArray, List.getElem_cons_zero, List.getElem_cons_succ]
  refine nx_lit 45 j M rfl rfl rfl rfl ?_; clear M; intro W gl M; simp only [Act.put, List.setIfInBounds_toArray, List.set_cons_zero, List.set_cons_succ]
  (first | refine backA_intro2 (⟨by first | exact NX.s3 M (by simp) | exact PX.s3 M (by decide) (by simp), True.intro⟩) ?_ | refine backA_intro (⟨by first | exact NX.s3 M (by simp) | exact PX.s3 M (by decide) (by simp), True.intro⟩) ?_)
  refine ah_sole 15 #[true, true, true, true, true, true, true, true, true, true, true, true, true, true, true, true, false] rfl (by decide) (by kernel_rfl) ?_
  try simp only [List.getElem_toArray, List.getElem_cons_zero, List.getElem_cons_succ]
  go_wp2_with (at_builtin; refine nx_app 0 (aN : Int) j gl (.tmp 43) (.tmp 45) M (by decide) rfl rfl rfl rfl (Nat.le_trans (HB.out 0 (aN : Int)) (by decide)) ?_; clear M; intro v' W M; simp only [Act.put, List.setIfInBounds_toArray, List.set_cons_zero, List.set_cons_succ])
  (first | refine backA_intro2 (⟨by first | exact NX.s3 M (by simp) | exact PX.s3 M (by decide) (by simp), True.intro⟩) ?_ | refine backA_intro (⟨by first | exact NX.s3 M (by simp) | exact PX.s3 M (by decide) (by simp), True.intro⟩) ?_)
  refine ah_tail (by kernel_rfl) ?_
  try simp only [List.drop]
  refine nx_upd 0 (aN : Int) v' _ 159 (.tmp 34) (.tmp 36) (.tmp 46) M (by decide) rfl Try.underlying159 rfl rfl rfl rfl HWA.out HM2.out ?_
  clear M
  intro W F2 M
  simp only [Act.put]
  have c5 := (M.own.get 0 rfl).cell
  refine np_intro ?_
  generalize updN f1 0 (updI (f1 0) (aN : Int) (some v')) = f2 at M
  obtain ⟨A0, q0, e0, _⟩ := (M.at_.rows 0 (by decide) (aN : Int)).shape
  obtain ⟨A1, q1, e1, hx1⟩ := (M.at_.rows 1 (by decide) (aN : Int)).shape
  have HE0 := Lib.hid (show rowV f2 0 (aN : Int) = .slice A0 s1 q0 by rw [e0, HS1.out.1]; simp [updN, updI, ownK])
  have HE1 := Lib.hid (show rowV f2 1 (aN : Int) = .slice A1 nt q1 by rw [e1, HS1.out.2]; rfl)
  clear e0 e1 hx1
  go_wp2
  clear c5
  have c5 := Later.cell (M.own.get 0 rfl)
  have cm : ∀ q : Later _, q.1.cell? ⟨p, 3, none⟩ = some (.map (some (mb 0))) := fun q => (M.kept q.2).at_.blk.cell 3
  have cr : ∀ q : Later _, q.1.cell? ⟨p, 0, none⟩ = some (.slice (some rad) nr d) := fun q => (M.kept q.2).at_.blk.cell 0
  have lk0 : ∀ q : Later _, (Instr.lookup 159 (.map (some (mb 0))) (.int .i64 (aN : Int)) false).run Try.prog q.1 = .ok (.slice A0 s1 q0) q.1 := fun q => by
    have := look_eqV ((M.kept q.2).at_.maps 0 (by decide)) 159 25 (.slice none 0 0) Try.underlying159 (zero25 _) ((aN : Int)) HWA.out
    rw [show (f2 0 (aN : Int)).getD (.slice none 0 0) = .slice A0 s1 q0 from HE0.out] at this; exact this
  have ck : ∀ q : Later _, q.1.cell? (rad.add aN) = some (.int .i64 rma) := fun q => HRC.out _ (M.kept q.2).own.keep
  refine wp_quiet_later (by kernel_rfl) (by kernel_rfl) ?_
  repeat (first
    | go_big_quiet_skip
    | go_big_quiet_step (fail))
  refine wpQuiet_nil ?_
  intro _ hw
  obtain ⟨p', rfl⟩ := hw
  replace M := M.kept p'.2
  clear c5 cm cr lk0 ck
  generalize p'.1 = W3 at M ⊢
  have c5 := (M.own.get 0 rfl).cell
  go_wp2
  clear c5
  have c5 := Later.cell (M.own.get 0 rfl)
  have cm : ∀ q : Later _, q.1.cell? ⟨p, 4, none⟩ = some (.map (some (mb 1))) := fun q => (M.kept q.2).at_.blk.cell 4
  have lk1 : ∀ q : Later _, (Instr.lookup 159 (.map (some (mb 1))) (.int .i64 (aN : Int)) false).run Try.prog q.1 = .ok (.slice A1 nt q1) q.1 := fun q => by
    have := look_eqV ((M.kept q.2).at_.maps 1 (by decide)) 159 25 (.slice none 0 0) Try.underlying159 (zero25 _) ((aN : Int)) HWA.out
    rw [show (f2 1 (aN : Int)).getD (.slice none 0 0) = .slice A1 nt q1 from HE1.out] at this; exact this
  refine wp_quiet_later (by kernel_rfl) (by kernel_rfl) ?_
  repeat (first
    | go_big_quiet_skip
    | go_big_quiet_step (fail))
  refine wpQuiet_nil ?_
  intro _ hw
  obtain ⟨p', rfl⟩ := hw
  replace M := M.kept p'.2
  clear c5 cm lk1
  generalize p'.1 = W3 at M ⊢
  have HLEN := Lib.hid (show (ownL k who).length ≤ 1000000 by have := HFR.out; omega)
  go_wp2_with (first
    | (go_at_call 95; refine (sort_mint M.row.hrow HLEN.out).mono ?_; rintro e W4 ⟨rfl, hR1, K1⟩; have HR1 := Lib.hid hR1; have HK1 := Lib.hid K1; clear hR1 K1)
    | (go_at_call 96; refine (compact_row HR1.out (by rw [sc_length]; exact HLEN.out)).mono ?_; rintro e W5 ⟨v2, rfl, e2, hR2, K2⟩; obtain ⟨q1, q2, q3, q4⟩ := M.done HK1.out K2 e2; have HQ := Lib.hid (And.intro hR2 (And.intro q1 (And.intro q2 (And.intro q3 q4)))); clear e2 hR2 K2 q1 q2 q3 q4 M)
    | go_big_skip)
  go_ret
  obtain ⟨q0, q1, q2, q3, q4⟩ := HQ.out
  rw [← HN1.out] at q0
  exact ⟨v2, _, _, rfl, q0, (by rw [HN2.out]; exact q1), q2, q3, q4⟩
set_option maxRecDepth 100000 in
set_option maxHeartbeats 2000000 in
theorem lnext_5b (hl : LinksAt w F rooms p mb f k m base) (hwf : (Lit.int .i64 who).wf = true) (hwa : (Lit.int .i64 (aN : Int)).wf = true) (hm : m ≤ 100000) (hb : ∀ i a, (k.rows i a).length ≤ 100000) {rad : Addr} {nr d : Nat} (hrm : rooms = .slice (some rad) nr d) (hrb : rad.block < base) (hrc : w.cell? (rad.add aN) = some (.int .i64 (rm aN))) (haN : aN < nr) (hrr : -1000 ≤ rm aN ∧ rm aN ≤ 1000000) (hcase : 1 ≤ ((k.rows 0 (aN : Int)).length + 1 : Nat) - rm aN) (hcase2 : ((k.rows 1 (aN : Int)).length : Int) < ((k.rows 0 (aN : Int)).length + 1 : Nat) - rm aN) :
    Calls Try.prog 70 #[.pointer (some ⟨p, 0, none⟩), .int .i64 j, .agg #[Value.int .i64 who, .int .i64 5, .int .i64 (aN : Int), .int .i64 v, .bool sh]] w (LNextPost w F rooms p mb k m base j ⟨who, 5, (aN : Int), v, sh⟩ rm) := by
  have O := Own.start w []
  have HL := Lib.hid hl
  have HWF := Lib.hid hwf
  have HWA := Lib.hid hwa
  have HM := Lib.hid hm
  have HB := Lib.hid hb
  have HM1 := Lib.hid (show m < maxLen by simp only [maxLen]; omega)
  have HM2 := Lib.hid (show m + 1 < maxLen by simp only [maxLen]; omega)
  subst hrm
  have HN2 := Lib.hid (show nextK k j ⟨who, 5, (aN : Int), v, sh⟩ = pushK (ownK k who j) 0 (aN : Int) j by simp [nextK])
  obtain ⟨nt, hnt⟩ : ∃ nt, nt = (k.rows 1 (aN : Int)).length := ⟨_, rfl⟩
  obtain ⟨s1, hs1⟩ : ∃ s1, s1 = (k.rows 0 (aN : Int)).length + 1 := ⟨_, rfl⟩
  obtain ⟨rma, hrma⟩ : ∃ rma, rma = rm aN := ⟨_, rfl⟩
  obtain ⟨nn, hnn⟩ : ∃ nn, nn = (s1 : Int) - rma := ⟨_, rfl⟩
  have HS1 := Lib.hid (And.intro hs1 hnt)
  rw [← hs1, ← hrma, ← hnn] at hcase
  rw [← hrma] at hrc hrr
  rw [← hs1, ← hrma, ← hnn, ← hnt] at hcase2
  have HN1 := Lib.hid (show nextR k rm ⟨who, 5, (aN : Int), v, sh⟩ = ownL k who by simp only [nextR, if_true]; rw [if_neg (by rw [← hs1, ← hrma, ← hnn, ← hnt]; omega), List.append_nil])
  have q8 : decide ((1 : Int) ≤ nn) = true := decide_eq_true (by omega)
  have q7 : (1 : Int) ≤ nn := by omega
  have q6 : decide (nn ≤ (nt : Int)) = false := decide_eq_false (by omega)
  have q5 : ¬ nn ≤ (nt : Int) := by omega
  clear hcase2
  have r1 : IntKind.i64.wrap ((s1 : Int) - rma) = nn := by
    rw [← hnn]
    exact IntWalk.i64_in _ (by have := hb 0 (aN : Int); omega)
  have g9 : (0 : Int) ≤ (aN : Int) := by omega
  have g8 : (aN : Int) < (nr : Int) := by omega
  have HRC := Lib.hid (show ∀ u, Keeps w u F → u.cell? (rad.add aN) = some (.int .i64 rma) from fun u K => by
    have h1 : rad.block < w.heap.size := by have := World.block_lt_of_cell? w _ hrc; rwa [add_block] at this
    rw [K.cellAt (by rw [add_block]; exact h1) (by rw [add_block]; intro hm; have := (hl.ltF _ hm).1; omega)]
    exact hrc)
  clear hs1 hnt hrma hnn hrc hrr hrb haN hcase
  clear hl hwf hwa hm hb
  go_enter Try.func70, Try.ntmps70
  go_wp2_with (first
    | (refine own_boxK 5 (#[Value.int .i64 who, .int .i64 5, .int .i64 (aN : Int), .int .i64 v, .bool sh]) O rfl rfl rfl rfl ?_; clear O; intro W b5 O _ HB5'; have HB5 := Lib.hid HB5'; clear HB5'; simp only [Act.put, List.setIfInBounds_toArray, List.set_cons_zero, List.set_cons_succ])
    | (refine own_load 13 0 O rfl rfl rfl rfl rfl Try.underlying37 rfl (by kernel_rfl) ?_; simp only [Act.put, List.setIfInBounds_toArray, List.set_cons_zero, List.set_cons_succ])
    | (go_at_call 94; refine (own_any (HL.out.kept O.keep (by simp)) HWF.out HM1.out).mono ?_; rintro e W1 ⟨r, rfl, hM, hL, K⟩; obtain ⟨M, hR⟩ := NX.start O HL.out HB5.out hL K hM; clear O HL hM hL K; have HR := Lib.hid hR; clear hR; have c5 := (M.own.get 0 rfl).cell; have hfr : (ownL k who).length ≤ 1 := ownL_length k who; have HFR := Lib.hid hfr; clear hfr; generalize updN f 4 (updI (f 4) who (some (.int .i64 j))) = f1 at M)
    | go_big_skip)
  go_wp2
  clear c5
  refine wp_headH (S := fun u => S3 u p (.slice (some rad) nr d) mb f1 (m + 1) b5 (#[Value.int .i64 who, .int .i64 5, .int .i64 (aN : Int), .int .i64 v, .bool sh]) ∧ True) 16 (by kernel_rfl) (by kernel_rfl) ?_
  replace M := M.kept (Keeps.refl _ _).drew
  refine ah_take (f := 2) (L' := #[true, true, true, true, true, true, true, true, true, true, true, true, true, true, false, false, false]) (⟨by first | exact NX.s3 M (by simp) | exact PX.s3 M (by decide) (by simp), True.intro⟩) [0, 1, 2, 3, 4, 5, 6, 7, 8, 9, 10, 11, 12, 13] [_, _, _, _, _, _, _, _, _, _, _, _, _, _] _ _ rfl (by decide) (by kernel_rfl) ?_
  simp only [List.getElem_toArray, List.getElem_cons_zero, List.getElem_cons_succ]
  repeat (first
    | (refine take_pure (v := ?_) (by rfl) ?_ ?_; rotate_left; (· (intro w hSw; have c5 := (S3.ev (And.left hSw)).cell; have cm : w.cell? ⟨p, 3, none⟩ = some (.map (some (mb 0))) := (S3.blk (And.left hSw)).cell 3; have lk : (Instr.lookup 159 (.map (some (mb 0))) (.int .i64 (aN : Int)) false).run Try.prog w = .ok (rowV f1 0 (aN : Int)) w := (by have := look_eqV ((S3.maps (And.left hSw)) 0 (by decide)) 159 25 (.slice none 0 0) Try.underlying159 (zero25 _) ((aN : Int)) HWA.out; exact this); clear hSw; go_simp; try with_reducible rfl)); simp only [Act.put, List.setIfInBounds_toArray, List.set_cons_zero, List.set_cons_succ]))
  refine takeA_done ?_
  refine ah_sole 14 #[true, true, true, true, true, true, true, true, true, true, true, true, true, true, true, false, false] rfl (by decide) (by kernel_rfl) ?_
  try simp only [List.getElem_toArray, List.getElem_cons_zero, List.getElem_cons_succ]
  refine nx_lit 45 j M rfl rfl rfl rfl ?_; clear M; intro W gl M; simp only [Act.put, List.setIfInBounds_toArray, List.set_cons_zero, List.set_cons_succ]
  (first | refine backA_intro2 (⟨by first | exact NX.s3 M (by simp) | exact PX.s3 M (by decide) (by simp), True.intro⟩) ?_ | refine backA_intro (⟨by first | exact NX.s3 M (by simp) | exact PX.s3 M (by decide) (by simp), True.intro⟩) ?_)
  refine ah_sole 15 #[true, true, true, true, true, true, true, true, true, true, true, true, true, true, true, true, false] rfl (by decide) (by kernel_rfl) ?_
  try simp only [List.getElem_toArray, List.getElem_cons_zero, List.getElem_cons_succ]
  go_wp2_with (at_builtin; refine nx_app 0 (aN : Int) j gl (.tmp 43) (.tmp 45) M (by decide) rfl rfl rfl rfl (Nat.le_trans (HB.out 0 (aN : Int)) (by decide)) ?_; clear M; intro v' W M; simp only [Act.put, List.setIfInBounds_toArray, List.set_cons_zero, List.set_cons_succ])
  (first | refine backA_intro2 (⟨by first | exact NX.s3 M (by simp) | exact PX.s3 M (by decide) (by simp), True.intro⟩) ?_ | refine backA_intro (⟨by first | exact NX.s3 M (by simp) | exact PX.s3 M (by decide) (by simp), True.intro⟩) ?_)
  refine ah_tail (by kernel_rfl) ?_
  try simp only [List.drop]
  refine nx_upd 0 (aN : Int) v' _ 159 (.tmp 34) (.tmp 36) (.tmp 46) M (by decide) rfl Try.underlying159 rfl rfl rfl rfl HWA.out HM2.out ?_
  clear M
  intro W F2 M
  simp only [Act.put]
  have c5 := (M.own.get 0 rfl).cell
  refine np_intro ?_
  generalize updN f1 0 (updI (f1 0) (aN : Int) (some v')) = f2 at M
  obtain ⟨A0, q0, e0, _⟩ := (M.at_.rows 0 (by decide) (aN : Int)).shape
  obtain ⟨A1, q1, e1, hx1⟩ := (M.at_.rows 1 (by decide) (aN : Int)).shape
  have HE0 := Lib.hid (show rowV f2 0 (aN : Int) = .slice A0 s1 q0 by rw [e0, HS1.out.1]; simp [updN, updI, ownK])
  have HE1 := Lib.hid (show rowV f2 1 (aN : Int) = .slice A1 nt q1 by rw [e1, HS1.out.2]; rfl)
  clear e0 e1 hx1
  go_wp2
  clear c5
  have c5 := Later.cell (M.own.get 0 rfl)
  have cm : ∀ q : Later _, q.1.cell? ⟨p, 3, none⟩ = some (.map (some (mb 0))) := fun q => (M.kept q.2).at_.blk.cell 3
  have cr : ∀ q : Later _, q.1.cell? ⟨p, 0, none⟩ = some (.slice (some rad) nr d) := fun q => (M.kept q.2).at_.blk.cell 0
  have lk0 : ∀ q : Later _, (Instr.lookup 159 (.map (some (mb 0))) (.int .i64 (aN : Int)) false).run Try.prog q.1 = .ok (.slice A0 s1 q0) q.1 := fun q => by
    have := look_eqV ((M.kept q.2).at_.maps 0 (by decide)) 159 25 (.slice none 0 0) Try.underlying159 (zero25 _) ((aN : Int)) HWA.out
    rw [show (f2 0 (aN : Int)).getD (.slice none 0 0) = .slice A0 s1 q0 from HE0.out] at this; exact this
  have ck : ∀ q : Later _, q.1.cell? (rad.add aN) = some (.int .i64 rma) := fun q => HRC.out _ (M.kept q.2).own.keep
  refine wp_quiet_later (by kernel_rfl) (by kernel_rfl) ?_
  repeat (first
    | go_big_quiet_skip
    | go_big_quiet_step (fail))
  refine wpQuiet_nil ?_
  intro _ hw
  obtain ⟨p', rfl⟩ := hw
  replace M := M.kept p'.2
  clear c5 cm cr lk0 ck
  generalize p'.1 = W3 at M ⊢
  have c5 := (M.own.get 0 rfl).cell
  go_wp2
  clear c5
  have c5 := Later.cell (M.own.get 0 rfl)
  have cm : ∀ q : Later _, q.1.cell? ⟨p, 4, none⟩ = some (.map (some (mb 1))) := fun q => (M.kept q.2).at_.blk.cell 4
  have lk1 : ∀ q : Later _, (Instr.lookup 159 (.map (some (mb 1))) (.int .i64 (aN : Int)) false).run Try.prog q.1 = .ok (.slice A1 nt q1) q.1 := fun q => by
    have := look_eqV ((M.kept q.2).at_.maps 1 (by decide)) 159 25 (.slice none 0 0) Try.underlying159 (zero25 _) ((aN : Int)) HWA.out
    rw [show (f2 1 (aN : Int)).getD (.slice none 0 0) = .slice A1 nt q1 from HE1.out] at this; exact this
  refine wp_quiet_later (by kernel_rfl) (by kernel_rfl) ?_
  repeat (first
    | go_big_quiet_skip
    | go_big_quiet_step (fail))
  refine wpQuiet_nil ?_
  intro _ hw
  obtain ⟨p', rfl⟩ := hw
  replace M := M.kept p'.2
  clear c5 cm lk1
  generalize p'.1 = W3 at M ⊢
  have HLEN := Lib.hid (show (ownL k who).length ≤ 1000000 by have := HFR.out; omega)
  go_wp2_with (first
    | (go_at_call 95; refine (sort_mint M.row.hrow HLEN.out).mono ?_; rintro e W4 ⟨rfl, hR1, K1⟩; have HR1 := Lib.hid hR1; have HK1 := Lib.hid K1; clear hR1 K1)
    | (go_at_call 96; refine (compact_row HR1.out (by rw [sc_length]; exact HLEN.out)).mono ?_; rintro e W5 ⟨v2, rfl, e2, hR2, K2⟩; obtain ⟨q1, q2, q3, q4⟩ := M.done HK1.out K2 e2; have HQ := Lib.hid (And.intro hR2 (And.intro q1 (And.intro q2 (And.intro q3 q4)))); clear e2 hR2 K2 q1 q2 q3 q4 M)
    | go_big_skip)
  go_ret
  obtain ⟨q0, q1, q2, q3, q4⟩ := HQ.out
  rw [← HN1.out] at q0
  exact ⟨v2, _, _, rfl, q0, (by rw [HN2.out]; exact q1), q2, q3, q4⟩
set_option maxRecDepth 100000 in
set_option maxHeartbeats 2000000 in
theorem lnext_5c (hl : LinksAt w F rooms p mb f k m base) (hwf : (Lit.int .i64 who).wf = true) (hwa : (Lit.int .i64 (aN : Int)).wf = true) (hm : m ≤ 100000) (hb : ∀ i a, (k.rows i a).length ≤ 100000) {rad : Addr} {nr d : Nat} (hrm : rooms = .slice (some rad) nr d) (hrb : rad.block < base) (hrc : w.cell? (rad.add aN) = some (.int .i64 (rm aN))) (haN : aN < nr) (hrr : -1000 ≤ rm aN ∧ rm aN ≤ 1000000) (hcase : 1 ≤ ((k.rows 0 (aN : Int)).length + 1 : Nat) - rm aN) (hcase2 : ((k.rows 0 (aN : Int)).length + 1 : Nat) - rm aN ≤ ((k.rows 1 (aN : Int)).length : Int)) :
    Calls Try.prog 70 #[.pointer (some ⟨p, 0, none⟩), .int .i64 j, .agg #[Value.int .i64 who, .int .i64 5, .int .i64 (aN : Int), .int .i64 v, .bool sh]] w (LNextPost w F rooms p mb k m base j ⟨who, 5, (aN : Int), v, sh⟩ rm) := by
  have O := Own.start w []
  have HL := Lib.hid hl
  have HWF := Lib.hid hwf
  have HWA := Lib.hid hwa
  have HM := Lib.hid hm
  have HB := Lib.hid hb
  have HM1 := Lib.hid (show m < maxLen by simp only [maxLen]; omega)
  have HM2 := Lib.hid (show m + 1 < maxLen by simp only [maxLen]; omega)
  subst hrm
  have HN2 := Lib.hid (show nextK k j ⟨who, 5, (aN : Int), v, sh⟩ = pushK (ownK k who j) 0 (aN : Int) j by simp [nextK])
  obtain ⟨nt, hnt⟩ : ∃ nt, nt = (k.rows 1 (aN : Int)).length := ⟨_, rfl⟩
  obtain ⟨s1, hs1⟩ : ∃ s1, s1 = (k.rows 0 (aN : Int)).length + 1 := ⟨_, rfl⟩
  obtain ⟨rma, hrma⟩ : ∃ rma, rma = rm aN := ⟨_, rfl⟩
  obtain ⟨nn, hnn⟩ : ∃ nn, nn = (s1 : Int) - rma := ⟨_, rfl⟩
  have HS1 := Lib.hid (And.intro hs1 hnt)
  rw [← hs1, ← hrma, ← hnn] at hcase
  rw [← hrma] at hrc hrr
  rw [← hs1, ← hrma, ← hnn, ← hnt] at hcase2
  obtain ⟨q, hq⟩ : ∃ q : Nat, nn = (q : Int) + 1 := ⟨(nn - 1).toNat, by omega⟩
  have HQQ := Lib.hid (show q < (k.rows 1 (aN : Int)).length by omega)
  obtain ⟨y, hy⟩ : ∃ y, y = (k.rows 1 (aN : Int)).getD q 0 := ⟨_, rfl⟩
  have HN1 := Lib.hid (show nextR k rm ⟨who, 5, (aN : Int), v, sh⟩ = ownL k who ++ [y] by
    simp only [nextR, if_true]
    rw [if_pos (by rw [← hs1, ← hrma, ← hnn, ← hnt]; omega), hy, ← hs1, ← hrma, ← hnn, hq, show ((q : Int) + 1 - 1).toNat = q by omega])
  have HY := Lib.hid hy
  have q8 : decide ((1 : Int) ≤ nn) = true := decide_eq_true (by omega)
  have q7 : (1 : Int) ≤ nn := by omega
  have q6 : decide (nn ≤ (nt : Int)) = true := decide_eq_true (by omega)
  have q5 : nn ≤ (nt : Int) := by omega
  have q4 : (q : Int) < (nt : Int) := by omega
  have q3 : (0 : Int) ≤ (q : Int) := by omega
  have r2 : IntKind.i64.wrap (nn - 1) = (q : Int) := by
    rw [show nn - 1 = (q : Int) by omega]
    exact IntWalk.i64_in _ (by have := hb 1 (aN : Int); omega)
  clear hcase2 hy hq
  have r1 : IntKind.i64.wrap ((s1 : Int) - rma) = nn := by
    rw [← hnn]
    exact IntWalk.i64_in _ (by have := hb 0 (aN : Int); omega)
  have g9 : (0 : Int) ≤ (aN : Int) := by omega
  have g8 : (aN : Int) < (nr : Int) := by omega
  have HRC := Lib.hid (show ∀ u, Keeps w u F → u.cell? (rad.add aN) = some (.int .i64 rma) from fun u K => by
    have h1 : rad.block < w.heap.size := by have := World.block_lt_of_cell? w _ hrc; rwa [add_block] at this
    rw [K.cellAt (by rw [add_block]; exact h1) (by rw [add_block]; intro hm; have := (hl.ltF _ hm).1; omega)]
    exact hrc)
  clear hs1 hnt hrma hnn hrc hrr hrb haN hcase
  clear hl hwf hwa hm hb
  go_enter Try.func70, Try.ntmps70
  go_wp2_with (first
    | (refine own_boxK 5 (#[Value.int .i64 who, .int .i64 5, .int .i64 (aN : Int), .int .i64 v, .bool sh]) O rfl rfl rfl rfl ?_; clear O; intro W b5 O _ HB5'; have HB5 := Lib.hid HB5'; clear HB5'; simp only [Act.put, List.setIfInBounds_toArray, List.set_cons_zero, List.set_cons_succ])
    | (refine own_load 13 0 O rfl rfl rfl rfl rfl Try.underlying37 rfl (by kernel_rfl) ?_; simp only [Act.put, List.setIfInBounds_toArray, List.set_cons_zero, List.set_cons_succ])
    | (go_at_call 94; refine (own_any (HL.out.kept O.keep (by simp)) HWF.out HM1.out).mono ?_; rintro e W1 ⟨r, rfl, hM, hL, K⟩; obtain ⟨M, hR⟩ := NX.start O HL.out HB5.out hL K hM; clear O HL hM hL K; have HR := Lib.hid hR; clear hR; have c5 := (M.own.get 0 rfl).cell; have hfr : (ownL k who).length ≤ 1 := ownL_length k who; have HFR := Lib.hid hfr; clear hfr; generalize updN f 4 (updI (f 4) who (some (.int .i64 j))) = f1 at M)
    | go_big_skip)
  go_wp2
  clear c5
  refine wp_headH (S := fun u => S3 u p (.slice (some rad) nr d) mb f1 (m + 1) b5 (#[Value.int .i64 who, .int .i64 5, .int .i64 (aN : Int), .int .i64 v, .bool sh]) ∧ True) 16 (by kernel_rfl) (by kernel_rfl) ?_
  replace M := M.kept (Keeps.refl _ _).drew
  refine ah_take (f := 2) (L' := #[true, true, true, true, true, true, true, true, true, true, true, true, true, true, false, false, false]) (⟨by first | exact NX.s3 M (by simp) | exact PX.s3 M (by decide) (by simp), True.intro⟩) [0, 1, 2, 3, 4, 5, 6, 7, 8, 9, 10, 11, 12, 13] [_, _, _, _, _, _, _, _, _, _, _, _, _, _] _ _ rfl (by decide) (by kernel_rfl) ?_
  simp only [List.getElem_toArray, List.getElem_cons_zero, List.getElem_cons_succ]
  repeat (first
    | (refine take_pure (v := ?_) (by rfl) ?_ ?_; rotate_left; (· (intro w hSw; have c5 := (S3.ev (And.left hSw)).cell; have cm : w.cell? ⟨p, 3, none⟩ = some (.map (some (mb 0))) := (S3.blk (And.left hSw)).cell 3; have lk : (Instr.lookup 159 (.map (some (mb 0))) (.int .i64 (aN : Int)) false).run Try.prog w = .ok (rowV f1 0 (aN : Int)) w := (by have := look_eqV ((S3.maps (And.left hSw)) 0 (by decide)) 159 25 (.slice none 0 0) Try.underlying159 (zero25 _) ((aN : Int)) HWA.out; exact this); clear hSw; go_simp; try with_reducible rfl)); simp only [Act.put, List.setIfInBounds_toArray, List.set_cons_zero, List.set_cons_succ]))
  refine takeA_done ?_
  refine ah_sole 14 #[true, true, true, true, true, true, true, true, true, true, true, true, true, true, true, false, false] rfl (by decide) (by kernel_rfl) ?_
  try simp only [List.getElem_toArray, List.getElem_cons_zero, List.getElem_cons_succ]
  refine nx_lit 45 j M rfl rfl rfl rfl ?_; clear M; intro W gl M; simp only [Act.put, List.setIfInBounds_toArray, List.set_cons_zero, List.set_cons_succ]
  (first | refine backA_intro2 (⟨by first | exact NX.s3 M (by simp) | exact PX.s3 M (by decide) (by simp), True.intro⟩) ?_ | refine backA_intro (⟨by first | exact NX.s3 M (by simp) | exact PX.s3 M (by decide) (by simp), True.intro⟩) ?_)
  refine ah_sole 15 #[true, true, true, true, true, true, true, true, true, true, true, true, true, true, true, true, false] rfl (by decide) (by kernel_rfl) ?_
  try simp only [List.getElem_toArray, List.getElem_cons_zero, List.getElem_cons_succ]
  go_wp2_with (at_builtin; refine nx_app 0 (aN : Int) j gl (.tmp 43) (.tmp 45) M (by decide) rfl rfl rfl rfl (Nat.le_trans (HB.out 0 (aN : Int)) (by decide)) ?_; clear M; intro v' W M; simp only [Act.put, List.setIfInBounds_toArray, List.set_cons_zero, List.set_cons_succ])
  (first | refine backA_intro2 (⟨by first | exact NX.s3 M (by simp) | exact PX.s3 M (by decide) (by simp), True.intro⟩) ?_ | refine backA_intro (⟨by first | exact NX.s3 M (by simp) | exact PX.s3 M (by decide) (by simp), True.intro⟩) ?_)
  refine ah_tail (by kernel_rfl) ?_
  try simp only [List.drop]
  refine nx_upd 0 (aN : Int) v' _ 159 (.tmp 34) (.tmp 36) (.tmp 46) M (by decide) rfl Try.underlying159 rfl rfl rfl rfl HWA.out HM2.out ?_
  clear M
  intro W F2 M
  simp only [Act.put]
  have c5 := (M.own.get 0 rfl).cell
  refine np_intro ?_
  generalize updN f1 0 (updI (f1 0) (aN : Int) (some v')) = f2 at M
  obtain ⟨A0, q0, e0, _⟩ := (M.at_.rows 0 (by decide) (aN : Int)).shape
  obtain ⟨A1, q1, e1, hx1⟩ := (M.at_.rows 1 (by decide) (aN : Int)).shape
  obtain ⟨ad1, rfl, _⟩ := hx1 q HQQ.out
  have HE0 := Lib.hid (show rowV f2 0 (aN : Int) = .slice A0 s1 q0 by rw [e0, HS1.out.1]; simp [updN, updI, ownK])
  have HE1 := Lib.hid (show rowV f2 1 (aN : Int) = .slice (some ad1) nt q1 by rw [e1, HS1.out.2]; rfl)
  clear e0 e1 hx1
  go_wp2
  clear c5
  have c5 := Later.cell (M.own.get 0 rfl)
  have cm : ∀ q : Later _, q.1.cell? ⟨p, 3, none⟩ = some (.map (some (mb 0))) := fun q => (M.kept q.2).at_.blk.cell 3
  have cr : ∀ q : Later _, q.1.cell? ⟨p, 0, none⟩ = some (.slice (some rad) nr d) := fun q => (M.kept q.2).at_.blk.cell 0
  have lk0 : ∀ q : Later _, (Instr.lookup 159 (.map (some (mb 0))) (.int .i64 (aN : Int)) false).run Try.prog q.1 = .ok (.slice A0 s1 q0) q.1 := fun q => by
    have := look_eqV ((M.kept q.2).at_.maps 0 (by decide)) 159 25 (.slice none 0 0) Try.underlying159 (zero25 _) ((aN : Int)) HWA.out
    rw [show (f2 0 (aN : Int)).getD (.slice none 0 0) = .slice A0 s1 q0 from HE0.out] at this; exact this
  have ck : ∀ q : Later _, q.1.cell? (rad.add aN) = some (.int .i64 rma) := fun q => HRC.out _ (M.kept q.2).own.keep
  refine wp_quiet_later (by kernel_rfl) (by kernel_rfl) ?_
  repeat (first
    | go_big_quiet_skip
    | go_big_quiet_step (fail))
  refine wpQuiet_nil ?_
  intro _ hw
  obtain ⟨p', rfl⟩ := hw
  replace M := M.kept p'.2
  clear c5 cm cr lk0 ck
  generalize p'.1 = W3 at M ⊢
  have c5 := (M.own.get 0 rfl).cell
  go_wp2
  clear c5
  have c5 := Later.cell (M.own.get 0 rfl)
  have cm : ∀ q : Later _, q.1.cell? ⟨p, 4, none⟩ = some (.map (some (mb 1))) := fun q => (M.kept q.2).at_.blk.cell 4
  have lk1 : ∀ q : Later _, (Instr.lookup 159 (.map (some (mb 1))) (.int .i64 (aN : Int)) false).run Try.prog q.1 = .ok (.slice (some ad1) nt q1) q.1 := fun q => by
    have := look_eqV ((M.kept q.2).at_.maps 1 (by decide)) 159 25 (.slice none 0 0) Try.underlying159 (zero25 _) ((aN : Int)) HWA.out
    rw [show (f2 1 (aN : Int)).getD (.slice none 0 0) = .slice (some ad1) nt q1 from HE1.out] at this; exact this
  refine wp_quiet_later (by kernel_rfl) (by kernel_rfl) ?_
  repeat (first
    | go_big_quiet_skip
    | go_big_quiet_step (fail))
  refine wpQuiet_nil ?_
  intro _ hw
  obtain ⟨p', rfl⟩ := hw
  replace M := M.kept p'.2
  clear c5 cm lk1
  generalize p'.1 = W3 at M ⊢
  have HX := Lib.hid (show ∀ u L r fr F2 m, NX w u F F2 (.slice (some rad) nr d) p mb f2 (pushK (ownK k who j) 0 (aN : Int) j) m base L r fr → u.cell? (ad1.add q) = some (.int .i64 y) from fun u L r fr F2 m M => by
    have h := M.at_.rows 1 (by decide) (aN : Int)
    rw [HE1.out] at h
    have h2 := h.cellOf (q := q) (show q < (k.rows 1 (aN : Int)).length from HQQ.out)
    rw [h2, HY.out]
    rfl)
  have c5 := (M.own.get 0 rfl).cell
  go_wp2
  clear c5
  refine wp_headH (S := fun u => S3 u p (.slice (some rad) nr d) mb f2 (m + 1 + 1) b5 (#[Value.int .i64 who, .int .i64 5, .int .i64 (aN : Int), .int .i64 v, .bool sh]) ∧ u.cell? (ad1.add q) = some (.int .i64 y)) 14 (by kernel_rfl) (by kernel_rfl) ?_
  replace M := M.kept (Keeps.refl _ _).drew
  refine ah_take (f := 2) (L' := #[true, true, true, true, true, true, true, true, true, true, true, true, false, false, false]) (⟨by first | exact NX.s3 M (by simp) | exact PX.s3 M (by decide) (by simp), by first | exact HX.out _ _ _ _ _ _ M⟩) [0, 1, 2, 3, 4, 5, 6, 7, 8, 9, 10, 11] [_, _, _, _, _, _, _, _, _, _, _, _] _ _ rfl (by decide) (by kernel_rfl) ?_
  simp only [List.getElem_toArray, List.getElem_cons_zero, List.getElem_cons_succ]
  repeat (first
    | (refine take_pure (v := ?_) (by rfl) ?_ ?_; rotate_left; (· (intro w hSw; have c5 := (S3.ev (And.left hSw)).cell; have cm1 : w.cell? ⟨p, 4, none⟩ = some (.map (some (mb 1))) := (S3.blk (And.left hSw)).cell 4; have lk1 : (Instr.lookup 159 (.map (some (mb 1))) (.int .i64 (aN : Int)) false).run Try.prog w = .ok (.slice (some ad1) nt q1) w := (by have := look_eqV ((S3.maps (And.left hSw)) 1 (by decide)) 159 25 (.slice none 0 0) Try.underlying159 (zero25 _) ((aN : Int)) HWA.out; rw [show (f2 1 (aN : Int)).getD (.slice none 0 0) = .slice (some ad1) nt q1 from HE1.out] at this; exact this); have ck := And.right hSw; clear hSw; go_simp; try with_reducible rfl)); simp only [Act.put, List.setIfInBounds_toArray, List.set_cons_zero, List.set_cons_succ]))
  refine takeA_done ?_
  refine ah_sole 12 #[true, true, true, true, true, true, true, true, true, true, true, true, true, false, false] rfl (by decide) (by kernel_rfl) ?_
  try simp only [List.getElem_toArray, List.getElem_cons_zero, List.getElem_cons_succ]
  refine nx_lit 90 y M rfl rfl rfl rfl ?_; clear M; intro W gl M; simp only [Act.put, List.setIfInBounds_toArray, List.set_cons_zero, List.set_cons_succ]
  (first | refine backA_intro2 (⟨by first | exact NX.s3 M (by simp) | exact PX.s3 M (by decide) (by simp), by first | exact HX.out _ _ _ _ _ _ M⟩) ?_ | refine backA_intro (⟨by first | exact NX.s3 M (by simp) | exact PX.s3 M (by decide) (by simp), by first | exact HX.out _ _ _ _ _ _ M⟩) ?_)
  refine ah_sole 13 #[true, true, true, true, true, true, true, true, true, true, true, true, true, true, false] rfl (by decide) (by kernel_rfl) ?_
  try simp only [List.getElem_toArray, List.getElem_cons_zero, List.getElem_cons_succ]
  go_wp2_with (at_builtin; refine nx_from1 y gl (.tmp 78) (.tmp 90) M rfl rfl rfl rfl HR.out (by have := HFR.out; omega) ?_; clear M HR; intro v' W M hR; simp only [Act.put, List.setIfInBounds_toArray, List.set_cons_zero, List.set_cons_succ])
  (first | refine backA_intro2 (⟨by first | exact NX.s3 M (by simp) | exact PX.s3 M (by decide) (by simp), by first | exact HX.out _ _ _ _ _ _ M⟩) ?_ | refine backA_intro (⟨by first | exact NX.s3 M (by simp) | exact PX.s3 M (by decide) (by simp), by first | exact HX.out _ _ _ _ _ _ M⟩) ?_)
  refine ah_tail (by kernel_rfl) ?_
  try simp only [List.drop]
  go_wp2_with (first | go_big_skip)
  refine np_intro ?_
  have HLEN := Lib.hid (show (ownL k who ++ [y]).length ≤ 1000000 by have := HFR.out; rw [List.length_append]; simp; omega)
  go_wp2_with (first
    | (go_at_call 95; refine (sort_mint M.row.hrow HLEN.out).mono ?_; rintro e W4 ⟨rfl, hR1, K1⟩; have HR1 := Lib.hid hR1; have HK1 := Lib.hid K1; clear hR1 K1)
    | (go_at_call 96; refine (compact_row HR1.out (by rw [sc_length]; exact HLEN.out)).mono ?_; rintro e W5 ⟨v2, rfl, e2, hR2, K2⟩; obtain ⟨q1, q2, q3, q4⟩ := M.done HK1.out K2 e2; have HQ := Lib.hid (And.intro hR2 (And.intro q1 (And.intro q2 (And.intro q3 q4)))); clear e2 hR2 K2 q1 q2 q3 q4 M)
    | go_big_skip)
  go_ret
  obtain ⟨q0, q1, q2, q3, q4⟩ := HQ.out
  rw [← HN1.out] at q0
  exact ⟨v2, _, _, rfl, q0, (by rw [HN2.out]; exact q1), q2, q3, q4⟩
theorem lnext_any (e : Ev) (hl : LinksAt w F rooms p mb f k m base) (hwf : (Lit.int .i64 e.who).wf = true) (hwa : (Lit.int .i64 e.a).wf = true) (hwv : e.op = 14 → (Lit.int .i64 e.v).wf = true) (hm : m ≤ 100000) (hb : ∀ i a, (k.rows i a).length ≤ 100000)
    (h5 : e.op = 5 → ∃ (rad : Addr) (nr d : Nat) (aN : Nat), rooms = .slice (some rad) nr d ∧ e.a = (aN : Int) ∧ rad.block < base ∧ w.cell? (rad.add aN) = some (.int .i64 (rm aN)) ∧ aN < nr ∧ -1000 ≤ rm aN ∧ rm aN ≤ 1000000)
    (h6 : e.op = 6 → e.sh = false → (k.rows 1 e.a).length < (k.rows 0 e.a).length) :
    Calls Try.prog 70 #[.pointer (some ⟨p, 0, none⟩), .int .i64 j, .agg (evC e)] w (LNextPost w F rooms p mb k m base j e rm) := by
  obtain ⟨who, op, a, v, sh⟩ := e
  simp only at hwf hwa hwv h5 h6
  by_cases o5 : op = 5
  · subst o5
    obtain ⟨rad, nr, d, aN, hrm, rfl, hrb, hrc, haN, hr1, hr2⟩ := h5 rfl
    by_cases c1 : ((k.rows 0 (aN : Int)).length + 1 : Nat) - rm aN < 1
    · exact lnext_5a hl hwf hwa hm hb hrm hrb hrc haN ⟨hr1, hr2⟩ c1
    · by_cases c2 : ((k.rows 1 (aN : Int)).length : Int) < ((k.rows 0 (aN : Int)).length + 1 : Nat) - rm aN
      · exact lnext_5b hl hwf hwa hm hb hrm hrb hrc haN ⟨hr1, hr2⟩ (by omega) c2
      · exact lnext_5c hl hwf hwa hm hb hrm hrb hrc haN ⟨hr1, hr2⟩ (by omega) (by omega)
  · by_cases o6 : op = 6
    · subst o6
      cases sh with
      | true => exact lnext_6s hl hwf hwa hm hb rfl
      | false => exact lnext_6t hl hwf hwa hm hb (h6 rfl rfl)
    · by_cases o7 : op = 7
      · subst o7
        cases h : k.ones 6 a with
        | some i => exact lnext_7a hl hwf hwa hm hb h
        | none => exact lnext_7b hl hwf hwa hm hb h
      · by_cases o8 : op = 8
        · subst o8; exact lnext_8 hl hwf hwa hm hb
        · by_cases o9 : op = 9
          · subst o9; exact lnext_9 hl hwf hwa hm hb
          · by_cases o10 : op = 10
            · subst o10; exact lnext_10 hl hwf hwa hm hb
            · by_cases o11 : op = 11
              · subst o11; exact lnext_11 hl hwf hwa hm hb
              · by_cases o14 : op = 14
                · subst o14
                  by_cases hv : 0 < v
                  · exact lnext_14b hl hwf hwa (hwv rfl) hm hb hv
                  · exact lnext_14a hl hwf hwa (hwv rfl) hm hb hv
                · exact lnext_o hl hwf hwa hm hb o5 o6 o7 o8 o9 o10 o11 o14
end
end Go.Proofs.Ytakmcpadkanggaa

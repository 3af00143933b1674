/-
 Part 6 of what this claim rests on.
-/
import Derived.Test.YtakmcpadkanggaaOd5
namespace Go.Proofs.Ytakmcpadkanggaa
open Go.RowKit Go.Maps Go.Deep
def LNextPost (w : World) (F : List Nat) (rooms : Value) (p : Nat) (mb : Nat → Nat) (k : Lk) (m base : Nat) (j : Int) (e : Ev) (rm : Int → Int) (x : Ending) (u : World) : Prop :=
 ∃ r F' f', x = .returned r ∧ HRow w.heap.size u r (scL (nextR k rm e)) ∧ LinksAt u F' rooms p mb f' (nextK k j e) (m + 2) base ∧ (∀ b ∈ F', b ∈ F ∨ w.heap.size ≤ b) ∧ (∀ g, r.ownBlock = some g → g ∉ F') ∧ Keeps w u F
section
variable {w W u u1 : World} {F F' : List Nat} {rooms : Value} {p : Nat} {mb : Nat → Nat} {f f1 : Nat → Int → Option Value} {k k1 : Lk} {m m1 base : Nat} {L : List Ent} {r v' : Value} {fr : List Int}
theorem Mint.lower {b b' : Nat} {xs : List Int} (h : Mint b' W r xs) (hb : b ≤ b') : Mint b W r xs := by
 refine ⟨h.1, ?_⟩
 rcases h.2 with hn | ⟨g, cap, cur, rfl, hg, rest⟩
 · exact .inl hn
 · exact .inr ⟨g, cap, cur, rfl, Nat.le_trans hb hg, rest⟩
theorem Own.widen {T : List Nat} (O : Own w W [] L) : Own w W T L := ⟨O.keep.wide (by simp), O.blk, fun q hq hlt => absurd (O.new q hq hlt) (by simp), O.nd⟩
theorem NX.start {b5 : Nat} {cs : Array Value} (O : Own w W [] [(b5, 37, cs)]) (hl : LinksAt w F rooms p mb f k m base) (hb5 : w.heap.size ≤ b5) (hu : LinksAt u F rooms p mb f1 k1 m1 base) (K : Keeps W u [mb 4]) (hM : Mint W.heap.size u r fr) :
   NX w u F F rooms p mb f1 k1 m1 base [(b5, 37, cs)] r fr ∧ ∀ q ∈ [(b5, 37, cs)], r.ownBlock ≠ some q.1 := by
 have hs := O.keep.size
 have hb := (O.blk (b5, 37, cs) (by simp)).lt
 have h4 := hl.inM 4 (by decide)
 have hF : ∀ b ∈ F, b < w.heap.size := fun b hb => (hl.ltF b hb).2
 refine ⟨⟨O.widen.wrote K (fun b hb _ => ?_) (fun q hq hm => ?_), hu, hM.lower hs, fun b hb => .inl hb, hF, fun g hg hm => ?_, fun q hq hm => ?_, hl.inM, hl.blk.lt⟩, fun q hq e => ?_⟩
 · obtain rfl : b = mb 4 := by simpa using hb
   exact h4
 · obtain rfl : q = (b5, 37, cs) := by simpa using hq
   have e : b5 = mb 4 := by simpa using hm
   have := hF _ h4
   omega
 · have := (Mint.own hM hg).1
   have := hF g hm
   omega
 · obtain rfl : q = (b5, 37, cs) := by simpa using hq
   have := hF _ hm
   simp only at this
   omega
 · obtain rfl : q = (b5, 37, cs) := by simpa using hq
   have := (Mint.own hM e).1
   simp only at this hb
   omega
theorem NX.done (M : NX w W F F' rooms p mb f k m base L r fr) (K1 : Keeps W u1 r.ownBlock.toList) (K2 : Keeps u1 u r.ownBlock.toList) (hv : v'.ownBlock = r.ownBlock) :
   LinksAt u F' rooms p mb f k m base ∧ (∀ b ∈ F', b ∈ F ∨ w.heap.size ≤ b) ∧ (∀ g, v'.ownBlock = some g → g ∉ F') ∧ Keeps w u F := by
 have hr : ∀ b ∈ r.ownBlock.toList, w.heap.size ≤ b ∧ b ∉ F' := fun b hb => by
   have hb' : r.ownBlock = some b := by simpa using hb
   exact ⟨(Mint.own M.row hb').1, M.ap b hb'⟩
 have h1 : ∀ b ∈ r.ownBlock.toList, b ∉ F' ∧ b ≠ p := fun b hb => ⟨(hr b hb).2, fun e => by have := (hr b hb).1; have := M.pw; omega⟩
 refine ⟨(M.at_.kept K1 h1).kept K2 h1, M.new, fun g hg => M.ap g (by rw [← hv]; exact hg), (M.own.keep.trans K1 fun b hb hlt => ?_).trans K2 fun b hb hlt => ?_⟩
 · have := (hr b hb).1; omega
 · have := (hr b hb).1; omega
theorem ownL_length (k : Lk) (who : Int) : (ownL k who).length ≤ 1 := by
 unfold ownL
 cases k.ones 4 who with
 | some i => simp
 | none => cases k.ones 5 who <;> simp
theorem sc_length (xs : List Int) : (xs.mergeSort fun x y => decide (x ≤ y)).length = xs.length := List.length_mergeSort _
end
section
variable {w : World} {F : List Nat} {rooms : Value} {p : Nat} {mb : Nat → Nat} {f : Nat → Int → Option Value} {k : Lk} {m base : Nat} {who op a v : Int} {sh : Bool} {j : Int} {rm : Int → Int} {aN : Nat}
set_option maxRecDepth 100000 in
set_option maxHeartbeats 2000000 in
theorem lnext_o (hl : LinksAt w F rooms p mb f k m base) (hwf : (Lit.int .i64 who).wf = true) (hwa : (Lit.int .i64 a).wf = true) (hm : m ≤ 100000) (hb : ∀ i a, (k.rows i a).length ≤ 100000) (h5 : ¬ op = 5) (h6 : ¬ op = 6) (h7 : ¬ op = 7) (h8 : ¬ op = 8) (h9 : ¬ op = 9) (h10 : ¬ op = 10) (h11 : ¬ op = 11) (h14 : ¬ op = 14) :
   Calls Try.prog 70 #[.pointer (some ⟨p, 0, none⟩), .int .i64 j, .agg #[Value.int .i64 who, .int .i64 op, .int .i64 a, .int .i64 v, .bool sh]] w (LNextPost w F rooms p mb k m base j ⟨who, op, a, v, sh⟩ rm) := by
 have O := Own.start w []
 have HL := Lib.hid hl
 have HWF := Lib.hid hwf
 have HWA := Lib.hid hwa
 have HM := Lib.hid hm
 have HB := Lib.hid hb
 have HM1 := Lib.hid (show m < maxLen by simp only [maxLen]; omega)
 have HM2 := Lib.hid (show m + 1 < maxLen by simp only [maxLen]; omega)
 have HN1 := Lib.hid (show nextR k rm ⟨who, op, a, v, sh⟩ = ownL k who by simp [nextR, h5, h6, h8, h11])
 have HN2 := Lib.hid (show nextK k j ⟨who, op, a, v, sh⟩ = ownK k who j by simp [nextK, h5, h6, h7, h8, h9, h10, h14])
 clear hl hwf hwa hm hb
 go_enter Try.func70, Try.ntmps70
 go_wp2_with (first
   | (refine own_boxK 5 (#[Value.int .i64 who, .int .i64 op, .int .i64 a, .int .i64 v, .bool sh]) O rfl rfl rfl rfl ?_; clear O; intro W b5 O _ HB5'; have HB5 := Lib.hid HB5'; clear HB5'; simp only [Act.put, kA, kZ, kS])
   | (refine own_load 13 0 O rfl rfl rfl rfl rfl Try.underlying37 rfl (by kernel_rfl) ?_; simp only [Act.put, kA, kZ, kS])
   | (go_at_call 94; refine (own_any (HL.out.kept O.keep (by simp)) HWF.out HM1.out).mono ?_; rintro e W1 ⟨r, rfl, hM, hL, K⟩; obtain ⟨M, hR⟩ := NX.start O HL.out HB5.out hL K hM; clear O HL hM hL K; have HR := Lib.hid hR; clear hR; have c5 := (M.own.get 0 rfl).cell; have hfr : (ownL k who).length ≤ 1 := ownL_length k who; have HFR := Lib.hid hfr; clear hfr; generalize updN f 4 (updI (f 4) who (some (.int .i64 j))) = f1 at M)
   | go_big_skip)
 have HLEN := Lib.hid (show (ownL k who).length ≤ 1000000 by have := HFR.out; omega)
 go_wp2_with (first
   | (go_at_call 95; refine (sort_mint M.row.hrow HLEN.out).mono ?_; rintro e W4 ⟨rfl, hR1, K1⟩; have HR1 := Lib.hid hR1; have HK1 := Lib.hid K1; clear hR1 K1)
   | (go_at_call 96; refine (compact_row HR1.out (by rw [sc_length]; exact HLEN.out)).mono ?_; rintro e W5 ⟨v2, rfl, e2, hR2, K2⟩; obtain ⟨q1, q2, q3, q4⟩ := M.done HK1.out K2 e2; have HQ := Lib.hid (And.intro hR2 (And.intro q1 (And.intro q2 (And.intro q3 q4)))); clear e2 hR2 K2 q1 q2 q3 q4 M)
   | go_big_skip)
 go_ret
 obtain ⟨q0, q1, q2, q3, q4⟩ := HQ.out
 rw [← HN1.out] at q0
 exact ⟨v2, _, _, rfl, q0, (by rw [HN2.out]; exact q1.mono (by omega)), q2, q3, q4⟩
set_option maxRecDepth 100000 in
set_option maxHeartbeats 2000000 in
theorem lnext_14a (hl : LinksAt w F rooms p mb f k m base) (hwf : (Lit.int .i64 who).wf = true) (hwa : (Lit.int .i64 a).wf = true) (hwv : (Lit.int .i64 v).wf = true) (hm : m ≤ 100000) (hb : ∀ i a, (k.rows i a).length ≤ 100000) (hv : ¬ 0 < v) :
   Calls Try.prog 70 #[.pointer (some ⟨p, 0, none⟩), .int .i64 j, .agg #[Value.int .i64 who, .int .i64 14, .int .i64 a, .int .i64 v, .bool sh]] w (LNextPost w F rooms p mb k m base j ⟨who, 14, a, v, sh⟩ rm) := by
 have O := Own.start w []
 have HL := Lib.hid hl
 have HWF := Lib.hid hwf
 have HWA := Lib.hid hwa
 have HWV := Lib.hid hwv
 have HM := Lib.hid hm
 have HB := Lib.hid hb
 have HM1 := Lib.hid (show m < maxLen by simp only [maxLen]; omega)
 have HM2 := Lib.hid (show m + 1 < maxLen by simp only [maxLen]; omega)
 have HN1 := Lib.hid (show nextR k rm ⟨who, 14, a, v, sh⟩ = ownL k who by simp [nextR])
 have HN2 := Lib.hid (show nextK k j ⟨who, 14, a, v, sh⟩ = ownK k who j by simp [nextK, hv])
 clear hl hwf hwa hwv hm hb
 go_enter Try.func70, Try.ntmps70
 go_wp2_with (first
   | (refine own_boxK 5 (#[Value.int .i64 who, .int .i64 14, .int .i64 a, .int .i64 v, .bool sh]) O rfl rfl rfl rfl ?_; clear O; intro W b5 O _ HB5'; have HB5 := Lib.hid HB5'; clear HB5'; simp only [Act.put, kA, kZ, kS])
   | (refine own_load 13 0 O rfl rfl rfl rfl rfl Try.underlying37 rfl (by kernel_rfl) ?_; simp only [Act.put, kA, kZ, kS])
   | (go_at_call 94; refine (own_any (HL.out.kept O.keep (by simp)) HWF.out HM1.out).mono ?_; rintro e W1 ⟨r, rfl, hM, hL, K⟩; obtain ⟨M, hR⟩ := NX.start O HL.out HB5.out hL K hM; clear O HL hM hL K; have HR := Lib.hid hR; clear hR; have c5 := (M.own.get 0 rfl).cell; have hfr : (ownL k who).length ≤ 1 := ownL_length k who; have HFR := Lib.hid hfr; clear hfr; generalize updN f 4 (updI (f 4) who (some (.int .i64 j))) = f1 at M)
   | go_big_skip)
 have HLEN := Lib.hid (show (ownL k who).length ≤ 1000000 by have := HFR.out; omega)
 go_wp2_with (first
   | (go_at_call 95; refine (sort_mint M.row.hrow HLEN.out).mono ?_; rintro e W4 ⟨rfl, hR1, K1⟩; have HR1 := Lib.hid hR1; have HK1 := Lib.hid K1; clear hR1 K1)
   | (go_at_call 96; refine (compact_row HR1.out (by rw [sc_length]; exact HLEN.out)).mono ?_; rintro e W5 ⟨v2, rfl, e2, hR2, K2⟩; obtain ⟨q1, q2, q3, q4⟩ := M.done HK1.out K2 e2; have HQ := Lib.hid (And.intro hR2 (And.intro q1 (And.intro q2 (And.intro q3 q4)))); clear e2 hR2 K2 q1 q2 q3 q4 M)
   | go_big_skip)
 go_ret
 obtain ⟨q0, q1, q2, q3, q4⟩ := HQ.out
 rw [← HN1.out] at q0
 exact ⟨v2, _, _, rfl, q0, (by rw [HN2.out]; exact q1.mono (by omega)), q2, q3, q4⟩
set_option maxRecDepth 100000 in
set_option maxHeartbeats 2000000 in
theorem lnext_14b (hl : LinksAt w F rooms p mb f k m base) (hwf : (Lit.int .i64 who).wf = true) (hwa : (Lit.int .i64 a).wf = true) (hwv : (Lit.int .i64 v).wf = true) (hm : m ≤ 100000) (hb : ∀ i a, (k.rows i a).length ≤ 100000) (hv : 0 < v) :
   Calls Try.prog 70 #[.pointer (some ⟨p, 0, none⟩), .int .i64 j, .agg #[Value.int .i64 who, .int .i64 14, .int .i64 a, .int .i64 v, .bool sh]] w (LNextPost w F rooms p mb k m base j ⟨who, 14, a, v, sh⟩ rm) := by
 have O := Own.start w []
 have HL := Lib.hid hl
 have HWF := Lib.hid hwf
 have HWA := Lib.hid hwa
 have HWV := Lib.hid hwv
 have HM := Lib.hid hm
 have HB := Lib.hid hb
 have HM1 := Lib.hid (show m < maxLen by simp only [maxLen]; omega)
 have HM2 := Lib.hid (show m + 1 < maxLen by simp only [maxLen]; omega)
 have HN1 := Lib.hid (show nextR k rm ⟨who, 14, a, v, sh⟩ = ownL k who by simp [nextR])
 have HN2 := Lib.hid (show nextK k j ⟨who, 14, a, v, sh⟩ = oneK (ownK k who j) 5 v j by simp [nextK, hv])
 clear hl hwf hwa hwv hm hb
 go_enter Try.func70, Try.ntmps70
 go_wp2_with (first
   | (refine own_boxK 5 (#[Value.int .i64 who, .int .i64 14, .int .i64 a, .int .i64 v, .bool sh]) O rfl rfl rfl rfl ?_; clear O; intro W b5 O _ HB5'; have HB5 := Lib.hid HB5'; clear HB5'; simp only [Act.put, kA, kZ, kS])
   | (refine own_load 13 0 O rfl rfl rfl rfl rfl Try.underlying37 rfl (by kernel_rfl) ?_; simp only [Act.put, kA, kZ, kS])
   | (go_at_call 94; refine (own_any (HL.out.kept O.keep (by simp)) HWF.out HM1.out).mono ?_; rintro e W1 ⟨r, rfl, hM, hL, K⟩; obtain ⟨M, hR⟩ := NX.start O HL.out HB5.out hL K hM; clear O HL hM hL K; have HR := Lib.hid hR; clear hR; have c5 := (M.own.get 0 rfl).cell; have hfr : (ownL k who).length ≤ 1 := ownL_length k who; have HFR := Lib.hid hfr; clear hfr; generalize updN f 4 (updI (f 4) who (some (.int .i64 j))) = f1 at M)
   | go_big_skip)
 go_wp2
 clear c5
 have c5 := Later.cell (M.own.get 0 rfl)
 have cm : ∀ q : Later _, q.1.cell? ⟨p, 2, none⟩ = some (.map (some (mb 5))) := fun q => (M.kept q.2).at_.blk.cell 2
 refine wp_quiet_tail_later 7 (by kernel_rfl) (by kernel_rfl) ?_
 simp only [List.take, List.drop]
 repeat (first | go_big_quiet_skip | go_big_quiet_step (fail))
 refine kq fun p' => ?_
 replace M := M.kept p'.2
 clear c5 cm
 generalize p'.1 = W3 at M ⊢
 refine nx_one 5 v j 117 (.tmp 25) (.tmp 27) (.tmp 28) M (by decide) (by decide) rfl Try.underlying117 rfl rfl rfl rfl HWV.out HM2.out ?_
 clear M
 intro W M
 simp only [Act.put]
 have HLEN := Lib.hid (show (ownL k who).length ≤ 1000000 by have := HFR.out; omega)
 go_wp2_with (first
   | (go_at_call 95; refine (sort_mint M.row.hrow HLEN.out).mono ?_; rintro e W4 ⟨rfl, hR1, K1⟩; have HR1 := Lib.hid hR1; have HK1 := Lib.hid K1; clear hR1 K1)
   | (go_at_call 96; refine (compact_row HR1.out (by rw [sc_length]; exact HLEN.out)).mono ?_; rintro e W5 ⟨v2, rfl, e2, hR2, K2⟩; obtain ⟨q1, q2, q3, q4⟩ := M.done HK1.out K2 e2; have HQ := Lib.hid (And.intro hR2 (And.intro q1 (And.intro q2 (And.intro q3 q4)))); clear e2 hR2 K2 q1 q2 q3 q4 M)
   | go_big_skip)
 go_ret
 obtain ⟨q0, q1, q2, q3, q4⟩ := HQ.out
 rw [← HN1.out] at q0
 exact ⟨v2, _, _, rfl, q0, (by rw [HN2.out]; exact q1), q2, q3, q4⟩
set_option maxRecDepth 100000 in
set_option maxHeartbeats 2000000 in
theorem lnext_9 (hl : LinksAt w F rooms p mb f k m base) (hwf : (Lit.int .i64 who).wf = true) (hwa : (Lit.int .i64 a).wf = true) (hm : m ≤ 100000) (hb : ∀ i a, (k.rows i a).length ≤ 100000)  :
   Calls Try.prog 70 #[.pointer (some ⟨p, 0, none⟩), .int .i64 j, .agg #[Value.int .i64 who, .int .i64 9, .int .i64 a, .int .i64 v, .bool sh]] w (LNextPost w F rooms p mb k m base j ⟨who, 9, a, v, sh⟩ rm) := by
 have O := Own.start w []
 have HL := Lib.hid hl
 have HWF := Lib.hid hwf
 have HWA := Lib.hid hwa
 have HM := Lib.hid hm
 have HB := Lib.hid hb
 have HM1 := Lib.hid (show m < maxLen by simp only [maxLen]; omega)
 have HM2 := Lib.hid (show m + 1 < maxLen by simp only [maxLen]; omega)
 have HN1 := Lib.hid (show nextR k rm ⟨who, 9, a, v, sh⟩ = ownL k who by simp [nextR])
 have HN2 := Lib.hid (show nextK k j ⟨who, 9, a, v, sh⟩ = pushK (ownK k who j) 2 a j by simp [nextK])
 clear hl hwf hwa hm hb
 go_enter Try.func70, Try.ntmps70
 go_wp2_with (first
   | (refine own_boxK 5 (#[Value.int .i64 who, .int .i64 9, .int .i64 a, .int .i64 v, .bool sh]) O rfl rfl rfl rfl ?_; clear O; intro W b5 O _ HB5'; have HB5 := Lib.hid HB5'; clear HB5'; simp only [Act.put, kA, kZ, kS])
   | (refine own_load 13 0 O rfl rfl rfl rfl rfl Try.underlying37 rfl (by kernel_rfl) ?_; simp only [Act.put, kA, kZ, kS])
   | (go_at_call 94; refine (own_any (HL.out.kept O.keep (by simp)) HWF.out HM1.out).mono ?_; rintro e W1 ⟨r, rfl, hM, hL, K⟩; obtain ⟨M, hR⟩ := NX.start O HL.out HB5.out hL K hM; clear O HL hM hL K; have HR := Lib.hid hR; clear hR; have c5 := (M.own.get 0 rfl).cell; have hfr : (ownL k who).length ≤ 1 := ownL_length k who; have HFR := Lib.hid hfr; clear hfr; generalize updN f 4 (updI (f 4) who (some (.int .i64 j))) = f1 at M)
   | go_big_skip)
 go_wp2
 clear c5
 refine wp_headH (S := fun u => S3 u p (rooms) mb f1 (m + 1) b5 (#[Value.int .i64 who, .int .i64 9, .int .i64 a, .int .i64 v, .bool sh]) ∧ True) 16 (by kernel_rfl) (by kernel_rfl) ?_
 replace M := M.kept (Keeps.refl _ _).drew
 refine ah_take (f := 2) (L' := #[true, true, true, true, true, true, true, true, true, true, true, true, true, true, false, false, false]) (⟨by first | exact NX.s3 M (by simp) | exact PX.s3 M (by decide) (by simp), True.intro⟩) [0, 1, 2, 3, 4, 5, 6, 7, 8, 9, 10, 11, 12, 13] [_, _, _, _, _, _, _, _, _, _, _, _, _, _] _ _ rfl (by decide) (by kernel_rfl) ?_
 simp only [List.getElem_toArray, List.getElem_cons_zero, List.getElem_cons_succ]
 repeat (first
   | (refine take_pure (v := ?_) (by rfl) ?_ ?_; rotate_left; (· (intro w hSw; have c5 := (S3.ev (And.left hSw)).cell; have cm : w.cell? ⟨p, 6, none⟩ = some (.map (some (mb 2))) := (S3.blk (And.left hSw)).cell 6; have lk : (Instr.lookup 159 (.map (some (mb 2))) (.int .i64 a) false).run Try.prog w = .ok (rowV f1 2 a) w := (by have := look_eqV ((S3.maps (And.left hSw)) 2 (by decide)) 159 25 (.slice none 0 0) Try.underlying159 (zero25 _) (a) HWA.out; exact this); clear hSw; go_simp; try with_reducible rfl)); simp only [Act.put, kA, kZ, kS]))
 refine takeA_done ?_
 refine ah_sole 14 #[true, true, true, true, true, true, true, true, true, true, true, true, true, true, true, false, false] rfl (by decide) (by kernel_rfl) ?_
 try simp only [List.getElem_toArray, List.getElem_cons_zero, List.getElem_cons_succ]
 refine nx_lit 180 j M rfl rfl rfl rfl ?_; clear M; intro W gl M; simp only [Act.put, kA, kZ, kS]
 (first | refine backA_intro2 (⟨by first | exact NX.s3 M (by simp) | exact PX.s3 M (by decide) (by simp), True.intro⟩) ?_ | refine backA_intro (⟨by first | exact NX.s3 M (by simp) | exact PX.s3 M (by decide) (by simp), True.intro⟩) ?_)
 refine ah_sole 15 #[true, true, true, true, true, true, true, true, true, true, true, true, true, true, true, true, false] rfl (by decide) (by kernel_rfl) ?_
 try simp only [List.getElem_toArray, List.getElem_cons_zero, List.getElem_cons_succ]
 go_wp2_with (at_builtin; refine nx_app 2 a j gl (.tmp 178) (.tmp 180) M (by decide) rfl rfl rfl rfl (Nat.le_trans (HB.out 2 a) (by decide)) ?_; clear M; intro v' W M; simp only [Act.put, kA, kZ, kS])
 (first | refine backA_intro2 (⟨by first | exact NX.s3 M (by simp) | exact PX.s3 M (by decide) (by simp), True.intro⟩) ?_ | refine backA_intro (⟨by first | exact NX.s3 M (by simp) | exact PX.s3 M (by decide) (by simp), True.intro⟩) ?_)
 refine ah_tail (by kernel_rfl) ?_
 try simp only [List.drop]
 refine nx_upd 2 a v' _ 159 (.tmp 169) (.tmp 171) (.tmp 181) M (by decide) rfl Try.underlying159 rfl rfl rfl rfl HWA.out HM2.out ?_
 clear M
 intro W F2 M
 simp only [Act.put]
 have c5 := (M.own.get 0 rfl).cell
 refine np_intro ?_
 have HLEN := Lib.hid (show (ownL k who).length ≤ 1000000 by have := HFR.out; omega)
 go_wp2_with (first
   | (go_at_call 95; refine (sort_mint M.row.hrow HLEN.out).mono ?_; rintro e W4 ⟨rfl, hR1, K1⟩; have HR1 := Lib.hid hR1; have HK1 := Lib.hid K1; clear hR1 K1)
   | (go_at_call 96; refine (compact_row HR1.out (by rw [sc_length]; exact HLEN.out)).mono ?_; rintro e W5 ⟨v2, rfl, e2, hR2, K2⟩; obtain ⟨q1, q2, q3, q4⟩ := M.done HK1.out K2 e2; have HQ := Lib.hid (And.intro hR2 (And.intro q1 (And.intro q2 (And.intro q3 q4)))); clear e2 hR2 K2 q1 q2 q3 q4 M)
   | go_big_skip)
 go_ret
 obtain ⟨q0, q1, q2, q3, q4⟩ := HQ.out
 rw [← HN1.out] at q0
 exact ⟨v2, _, _, rfl, q0, (by rw [HN2.out]; exact q1), q2, q3, q4⟩
set_option maxRecDepth 100000 in
set_option maxHeartbeats 2000000 in
theorem lnext_10 (hl : LinksAt w F rooms p mb f k m base) (hwf : (Lit.int .i64 who).wf = true) (hwa : (Lit.int .i64 a).wf = true) (hm : m ≤ 100000) (hb : ∀ i a, (k.rows i a).length ≤ 100000)  :
   Calls Try.prog 70 #[.pointer (some ⟨p, 0, none⟩), .int .i64 j, .agg #[Value.int .i64 who, .int .i64 10, .int .i64 a, .int .i64 v, .bool sh]] w (LNextPost w F rooms p mb k m base j ⟨who, 10, a, v, sh⟩ rm) := by
 have O := Own.start w []
 have HL := Lib.hid hl
 have HWF := Lib.hid hwf
 have HWA := Lib.hid hwa
 have HM := Lib.hid hm
 have HB := Lib.hid hb
 have HM1 := Lib.hid (show m < maxLen by simp only [maxLen]; omega)
 have HM2 := Lib.hid (show m + 1 < maxLen by simp only [maxLen]; omega)
 have HN1 := Lib.hid (show nextR k rm ⟨who, 10, a, v, sh⟩ = ownL k who by simp [nextR])
 have HN2 := Lib.hid (show nextK k j ⟨who, 10, a, v, sh⟩ = pushK (ownK k who j) 3 a j by simp [nextK])
 clear hl hwf hwa hm hb
 go_enter Try.func70, Try.ntmps70
 go_wp2_with (first
   | (refine own_boxK 5 (#[Value.int .i64 who, .int .i64 10, .int .i64 a, .int .i64 v, .bool sh]) O rfl rfl rfl rfl ?_; clear O; intro W b5 O _ HB5'; have HB5 := Lib.hid HB5'; clear HB5'; simp only [Act.put, kA, kZ, kS])
   | (refine own_load 13 0 O rfl rfl rfl rfl rfl Try.underlying37 rfl (by kernel_rfl) ?_; simp only [Act.put, kA, kZ, kS])
   | (go_at_call 94; refine (own_any (HL.out.kept O.keep (by simp)) HWF.out HM1.out).mono ?_; rintro e W1 ⟨r, rfl, hM, hL, K⟩; obtain ⟨M, hR⟩ := NX.start O HL.out HB5.out hL K hM; clear O HL hM hL K; have HR := Lib.hid hR; clear hR; have c5 := (M.own.get 0 rfl).cell; have hfr : (ownL k who).length ≤ 1 := ownL_length k who; have HFR := Lib.hid hfr; clear hfr; generalize updN f 4 (updI (f 4) who (some (.int .i64 j))) = f1 at M)
   | go_big_skip)
 go_wp2
 clear c5
 refine wp_headH (S := fun u => S3 u p (rooms) mb f1 (m + 1) b5 (#[Value.int .i64 who, .int .i64 10, .int .i64 a, .int .i64 v, .bool sh]) ∧ True) 16 (by kernel_rfl) (by kernel_rfl) ?_
 replace M := M.kept (Keeps.refl _ _).drew
 refine ah_take (f := 2) (L' := #[true, true, true, true, true, true, true, true, true, true, true, true, true, true, false, false, false]) (⟨by first | exact NX.s3 M (by simp) | exact PX.s3 M (by decide) (by simp), True.intro⟩) [0, 1, 2, 3, 4, 5, 6, 7, 8, 9, 10, 11, 12, 13] [_, _, _, _, _, _, _, _, _, _, _, _, _, _] _ _ rfl (by decide) (by kernel_rfl) ?_
 simp only [List.getElem_toArray, List.getElem_cons_zero, List.getElem_cons_succ]
 repeat (first
   | (refine take_pure (v := ?_) (by rfl) ?_ ?_; rotate_left; (· (intro w hSw; have c5 := (S3.ev (And.left hSw)).cell; have cm : w.cell? ⟨p, 7, none⟩ = some (.map (some (mb 3))) := (S3.blk (And.left hSw)).cell 7; have lk : (Instr.lookup 159 (.map (some (mb 3))) (.int .i64 a) false).run Try.prog w = .ok (rowV f1 3 a) w := (by have := look_eqV ((S3.maps (And.left hSw)) 3 (by decide)) 159 25 (.slice none 0 0) Try.underlying159 (zero25 _) (a) HWA.out; exact this); clear hSw; go_simp; try with_reducible rfl)); simp only [Act.put, kA, kZ, kS]))
 refine takeA_done ?_
 refine ah_sole 14 #[true, true, true, true, true, true, true, true, true, true, true, true, true, true, true, false, false] rfl (by decide) (by kernel_rfl) ?_
 try simp only [List.getElem_toArray, List.getElem_cons_zero, List.getElem_cons_succ]
 refine nx_lit 215 j M rfl rfl rfl rfl ?_; clear M; intro W gl M; simp only [Act.put, kA, kZ, kS]
 (first | refine backA_intro2 (⟨by first | exact NX.s3 M (by simp) | exact PX.s3 M (by decide) (by simp), True.intro⟩) ?_ | refine backA_intro (⟨by first | exact NX.s3 M (by simp) | exact PX.s3 M (by decide) (by simp), True.intro⟩) ?_)
 refine ah_sole 15 #[true, true, true, true, true, true, true, true, true, true, true, true, true, true, true, true, false] rfl (by decide) (by kernel_rfl) ?_
 try simp only [List.getElem_toArray, List.getElem_cons_zero, List.getElem_cons_succ]
 go_wp2_with (at_builtin; refine nx_app 3 a j gl (.tmp 213) (.tmp 215) M (by decide) rfl rfl rfl rfl (Nat.le_trans (HB.out 3 a) (by decide)) ?_; clear M; intro v' W M; simp only [Act.put, kA, kZ, kS])
 (first | refine backA_intro2 (⟨by first | exact NX.s3 M (by simp) | exact PX.s3 M (by decide) (by simp), True.intro⟩) ?_ | refine backA_intro (⟨by first | exact NX.s3 M (by simp) | exact PX.s3 M (by decide) (by simp), True.intro⟩) ?_)
 refine ah_tail (by kernel_rfl) ?_
 try simp only [List.drop]
 refine nx_upd 3 a v' _ 159 (.tmp 204) (.tmp 206) (.tmp 216) M (by decide) rfl Try.underlying159 rfl rfl rfl rfl HWA.out HM2.out ?_
 clear M
 intro W F2 M
 simp only [Act.put]
 have c5 := (M.own.get 0 rfl).cell
 refine np_intro ?_
 have HLEN := Lib.hid (show (ownL k who).length ≤ 1000000 by have := HFR.out; omega)
 go_wp2_with (first
   | (go_at_call 95; refine (sort_mint M.row.hrow HLEN.out).mono ?_; rintro e W4 ⟨rfl, hR1, K1⟩; have HR1 := Lib.hid hR1; have HK1 := Lib.hid K1; clear hR1 K1)
   | (go_at_call 96; refine (compact_row HR1.out (by rw [sc_length]; exact HLEN.out)).mono ?_; rintro e W5 ⟨v2, rfl, e2, hR2, K2⟩; obtain ⟨q1, q2, q3, q4⟩ := M.done HK1.out K2 e2; have HQ := Lib.hid (And.intro hR2 (And.intro q1 (And.intro q2 (And.intro q3 q4)))); clear e2 hR2 K2 q1 q2 q3 q4 M)
   | go_big_skip)
 go_ret
 obtain ⟨q0, q1, q2, q3, q4⟩ := HQ.out
 rw [← HN1.out] at q0
 exact ⟨v2, _, _, rfl, q0, (by rw [HN2.out]; exact q1), q2, q3, q4⟩
set_option maxRecDepth 100000 in
set_option maxHeartbeats 2000000 in
theorem lnext_11 (hl : LinksAt w F rooms p mb f k m base) (hwf : (Lit.int .i64 who).wf = true) (hwa : (Lit.int .i64 a).wf = true) (hm : m ≤ 100000) (hb : ∀ i a, (k.rows i a).length ≤ 100000)  :
   Calls Try.prog 70 #[.pointer (some ⟨p, 0, none⟩), .int .i64 j, .agg #[Value.int .i64 who, .int .i64 11, .int .i64 a, .int .i64 v, .bool sh]] w (LNextPost w F rooms p mb k m base j ⟨who, 11, a, v, sh⟩ rm) := by
 have O := Own.start w []
 have HL := Lib.hid hl
 have HWF := Lib.hid hwf
 have HWA := Lib.hid hwa
 have HM := Lib.hid hm
 have HB := Lib.hid hb
 have HM1 := Lib.hid (show m < maxLen by simp only [maxLen]; omega)
 have HM2 := Lib.hid (show m + 1 < maxLen by simp only [maxLen]; omega)
 have HN1 := Lib.hid (show nextR k rm ⟨who, 11, a, v, sh⟩ = ownL k who ++ k.rows 3 a by simp [nextR])
 have HN2 := Lib.hid (show nextK k j ⟨who, 11, a, v, sh⟩ = ownK k who j by simp [nextK])
 clear hl hwf hwa hm hb
 go_enter Try.func70, Try.ntmps70
 go_wp2_with (first
   | (refine own_boxK 5 (#[Value.int .i64 who, .int .i64 11, .int .i64 a, .int .i64 v, .bool sh]) O rfl rfl rfl rfl ?_; clear O; intro W b5 O _ HB5'; have HB5 := Lib.hid HB5'; clear HB5'; simp only [Act.put, kA, kZ, kS])
   | (refine own_load 13 0 O rfl rfl rfl rfl rfl Try.underlying37 rfl (by kernel_rfl) ?_; simp only [Act.put, kA, kZ, kS])
   | (go_at_call 94; refine (own_any (HL.out.kept O.keep (by simp)) HWF.out HM1.out).mono ?_; rintro e W1 ⟨r, rfl, hM, hL, K⟩; obtain ⟨M, hR⟩ := NX.start O HL.out HB5.out hL K hM; clear O HL hM hL K; have HR := Lib.hid hR; clear hR; have c5 := (M.own.get 0 rfl).cell; have hfr : (ownL k who).length ≤ 1 := ownL_length k who; have HFR := Lib.hid hfr; clear hfr; generalize updN f 4 (updI (f 4) who (some (.int .i64 j))) = f1 at M)
   | go_big_skip)
 go_wp2
 clear c5
 have c5 := Later.cell (M.own.get 0 rfl)
 have cm : ∀ q : Later _, q.1.cell? ⟨p, 7, none⟩ = some (.map (some (mb 3))) := fun q => (M.kept q.2).at_.blk.cell 7
 have lk : ∀ q : Later _, (Instr.lookup 159 (.map (some (mb 3))) (.int .i64 a) false).run Try.prog q.1 = .ok (rowV f1 3 a) q.1 := fun q => by
   have := look_eqV ((M.kept q.2).at_.maps 3 (by decide)) 159 25 (.slice none 0 0) Try.underlying159 (zero25 _) (a) HWA.out
   exact this
 refine wp_quiet_tail_later 8 (by kernel_rfl) (by kernel_rfl) ?_
 simp only [List.take, List.drop]
 repeat (first | go_big_quiet_skip | go_big_quiet_step (fail))
 refine kq fun p' => ?_
 replace M := M.kept p'.2
 clear c5 cm lk
 generalize p'.1 = W3 at M ⊢
 go_wp2_with (first
   | (at_builtin; refine nx_from (rowV f1 3 a) (k.rows 3 a) (.tmp 219) (.tmp 226) M rfl rfl rfl rfl (M.at_.rows 3 (by decide) a).listL.1 (M.at_.rows 3 (by decide) a).listL.2 HR.out (by have := HFR.out; have := HB.out 3 a; omega) ?_; clear M HR; intro v' W M hR; simp only [Act.put, kA, kZ, kS])
   | go_big_skip)
 have HLEN := Lib.hid (show (ownL k who ++ k.rows 3 a).length ≤ 1000000 by have := HFR.out; have := HB.out 3 a; rw [List.length_append]; omega)
 go_wp2_with (first
   | (go_at_call 95; refine (sort_mint M.row.hrow HLEN.out).mono ?_; rintro e W4 ⟨rfl, hR1, K1⟩; have HR1 := Lib.hid hR1; have HK1 := Lib.hid K1; clear hR1 K1)
   | (go_at_call 96; refine (compact_row HR1.out (by rw [sc_length]; exact HLEN.out)).mono ?_; rintro e W5 ⟨v2, rfl, e2, hR2, K2⟩; obtain ⟨q1, q2, q3, q4⟩ := M.done HK1.out K2 e2; have HQ := Lib.hid (And.intro hR2 (And.intro q1 (And.intro q2 (And.intro q3 q4)))); clear e2 hR2 K2 q1 q2 q3 q4 M)
   | go_big_skip)
 go_ret
 obtain ⟨q0, q1, q2, q3, q4⟩ := HQ.out
 rw [← HN1.out] at q0
 exact ⟨v2, _, _, rfl, q0, (by rw [HN2.out]; exact q1.mono (by omega)), q2, q3, q4⟩
set_option maxRecDepth 100000 in
set_option maxHeartbeats 2000000 in
theorem lnext_8 (hl : LinksAt w F rooms p mb f k m base) (hwf : (Lit.int .i64 who).wf = true) (hwa : (Lit.int .i64 a).wf = true) (hm : m ≤ 100000) (hb : ∀ i a, (k.rows i a).length ≤ 100000)  :
   Calls Try.prog 70 #[.pointer (some ⟨p, 0, none⟩), .int .i64 j, .agg #[Value.int .i64 who, .int .i64 8, .int .i64 a, .int .i64 v, .bool sh]] w (LNextPost w F rooms p mb k m base j ⟨who, 8, a, v, sh⟩ rm) := by
 have O := Own.start w []
 have HL := Lib.hid hl
 have HWF := Lib.hid hwf
 have HWA := Lib.hid hwa
 have HM := Lib.hid hm
 have HB := Lib.hid hb
 have HM1 := Lib.hid (show m < maxLen by simp only [maxLen]; omega)
 have HM2 := Lib.hid (show m + 1 < maxLen by simp only [maxLen]; omega)
 have HN1 := Lib.hid (show nextR k rm ⟨who, 8, a, v, sh⟩ = ownL k who ++ k.rows 2 a by simp [nextR])
 have HN2 := Lib.hid (show nextK k j ⟨who, 8, a, v, sh⟩ = ⟨updN (ownK k who j).rows 2 (updI ((ownK k who j).rows 2) a []), (ownK k who j).ones⟩ by simp [nextK])
 clear hl hwf hwa hm hb
 go_enter Try.func70, Try.ntmps70
 go_wp2_with (first
   | (refine own_boxK 5 (#[Value.int .i64 who, .int .i64 8, .int .i64 a, .int .i64 v, .bool sh]) O rfl rfl rfl rfl ?_; clear O; intro W b5 O _ HB5'; have HB5 := Lib.hid HB5'; clear HB5'; simp only [Act.put, kA, kZ, kS])
   | (refine own_load 13 0 O rfl rfl rfl rfl rfl Try.underlying37 rfl (by kernel_rfl) ?_; simp only [Act.put, kA, kZ, kS])
   | (go_at_call 94; refine (own_any (HL.out.kept O.keep (by simp)) HWF.out HM1.out).mono ?_; rintro e W1 ⟨r, rfl, hM, hL, K⟩; obtain ⟨M, hR⟩ := NX.start O HL.out HB5.out hL K hM; clear O HL hM hL K; have HR := Lib.hid hR; clear hR; have c5 := (M.own.get 0 rfl).cell; have hfr : (ownL k who).length ≤ 1 := ownL_length k who; have HFR := Lib.hid hfr; clear hfr; generalize updN f 4 (updI (f 4) who (some (.int .i64 j))) = f1 at M)
   | go_big_skip)
 go_wp2
 clear c5
 have c5 := Later.cell (M.own.get 0 rfl)
 have cm : ∀ q : Later _, q.1.cell? ⟨p, 6, none⟩ = some (.map (some (mb 2))) := fun q => (M.kept q.2).at_.blk.cell 6
 have lk : ∀ q : Later _, (Instr.lookup 159 (.map (some (mb 2))) (.int .i64 a) false).run Try.prog q.1 = .ok (rowV f1 2 a) q.1 := fun q => by
   have := look_eqV ((M.kept q.2).at_.maps 2 (by decide)) 159 25 (.slice none 0 0) Try.underlying159 (zero25 _) (a) HWA.out
   exact this
 refine wp_quiet_tail_later 8 (by kernel_rfl) (by kernel_rfl) ?_
 simp only [List.take, List.drop]
 repeat (first | go_big_quiet_skip | go_big_quiet_step (fail))
 refine kq fun p' => ?_
 replace M := M.kept p'.2
 clear c5 cm lk
 generalize p'.1 = W3 at M ⊢
 go_wp2_with (first
   | (at_builtin; refine nx_from (rowV f1 2 a) (k.rows 2 a) (.tmp 184) (.tmp 191) M rfl rfl rfl rfl (M.at_.rows 2 (by decide) a).listL.1 (M.at_.rows 2 (by decide) a).listL.2 HR.out (by have := HFR.out; have := HB.out 2 a; omega) ?_; clear M HR; intro v' W M hR; simp only [Act.put, kA, kZ, kS]; have c5 := (M.own.get 0 rfl).cell)
   | go_big_skip)
 go_wp2
 clear c5
 have c5 := Later.cell (M.own.get 0 rfl)
 have cm : ∀ q : Later _, q.1.cell? ⟨p, 6, none⟩ = some (.map (some (mb 2))) := fun q => (M.kept q.2).at_.blk.cell 6
 refine wp_quiet_tail_later 6 (by kernel_rfl) (by kernel_rfl) ?_
 simp only [List.take, List.drop]
 repeat (first | go_big_quiet_skip | go_big_quiet_step (fail))
 refine kq fun p' => ?_
 replace M := M.kept p'.2
 clear c5 cm
 generalize p'.1 = W3 at M ⊢
 refine nx_clear 2 a 159 (.tmp 196) (.tmp 198) (.const (.slice none 0 0)) M (by decide) rfl Try.underlying159 rfl rfl rfl rfl HWA.out HM2.out ?_
 clear M
 intro W M
 simp only [Act.put]
 have HLEN := Lib.hid (show (ownL k who ++ k.rows 2 a).length ≤ 1000000 by have := HFR.out; have := HB.out 2 a; rw [List.length_append]; omega)
 go_wp2_with (first
   | (go_at_call 95; refine (sort_mint M.row.hrow HLEN.out).mono ?_; rintro e W4 ⟨rfl, hR1, K1⟩; have HR1 := Lib.hid hR1; have HK1 := Lib.hid K1; clear hR1 K1)
   | (go_at_call 96; refine (compact_row HR1.out (by rw [sc_length]; exact HLEN.out)).mono ?_; rintro e W5 ⟨v2, rfl, e2, hR2, K2⟩; obtain ⟨q1, q2, q3, q4⟩ := M.done HK1.out K2 e2; have HQ := Lib.hid (And.intro hR2 (And.intro q1 (And.intro q2 (And.intro q3 q4)))); clear e2 hR2 K2 q1 q2 q3 q4 M)
   | go_big_skip)
 go_ret
 obtain ⟨q0, q1, q2, q3, q4⟩ := HQ.out
 rw [← HN1.out] at q0
 exact ⟨v2, _, _, rfl, q0, (by rw [HN2.out]; exact q1), q2, q3, q4⟩
set_option maxRecDepth 100000 in
set_option maxHeartbeats 2000000 in
theorem lnext_7a (hl : LinksAt w F rooms p mb f k m base) (hwf : (Lit.int .i64 who).wf = true) (hwa : (Lit.int .i64 a).wf = true) (hm : m ≤ 100000) (hb : ∀ i a, (k.rows i a).length ≤ 100000) {i : Int} (h6 : k.ones 6 a = some i) :
   Calls Try.prog 70 #[.pointer (some ⟨p, 0, none⟩), .int .i64 j, .agg #[Value.int .i64 who, .int .i64 7, .int .i64 a, .int .i64 v, .bool sh]] w (LNextPost w F rooms p mb k m base j ⟨who, 7, a, v, sh⟩ rm) := by
 have O := Own.start w []
 have HL := Lib.hid hl
 have HWF := Lib.hid hwf
 have HWA := Lib.hid hwa
 have HM := Lib.hid hm
 have HB := Lib.hid hb
 have HM1 := Lib.hid (show m < maxLen by simp only [maxLen]; omega)
 have HM2 := Lib.hid (show m + 1 < maxLen by simp only [maxLen]; omega)
 have HN1 := Lib.hid (show nextR k rm ⟨who, 7, a, v, sh⟩ = ownL k who by simp [nextR])
 have HN2 := Lib.hid (show nextK k j ⟨who, 7, a, v, sh⟩ = ownK k who j by simp [nextK, h6])
 have H6 := Lib.hid h6
 clear h6
 clear hl hwf hwa hm hb
 go_enter Try.func70, Try.ntmps70
 go_wp2_with (first
   | (refine own_boxK 5 (#[Value.int .i64 who, .int .i64 7, .int .i64 a, .int .i64 v, .bool sh]) O rfl rfl rfl rfl ?_; clear O; intro W b5 O _ HB5'; have HB5 := Lib.hid HB5'; clear HB5'; simp only [Act.put, kA, kZ, kS])
   | (refine own_load 13 0 O rfl rfl rfl rfl rfl Try.underlying37 rfl (by kernel_rfl) ?_; simp only [Act.put, kA, kZ, kS])
   | (go_at_call 94; refine (own_any (HL.out.kept O.keep (by simp)) HWF.out HM1.out).mono ?_; rintro e W1 ⟨r, rfl, hM, hL, K⟩; obtain ⟨M, hR⟩ := NX.start O HL.out HB5.out hL K hM; clear O HL hM hL K; have HR := Lib.hid hR; clear hR; have c5 := (M.own.get 0 rfl).cell; have hfr : (ownL k who).length ≤ 1 := ownL_length k who; have HFR := Lib.hid hfr; clear hfr; generalize updN f 4 (updI (f 4) who (some (.int .i64 j))) = f1 at M)
   | go_big_skip)
 have HF6 := Lib.hid (show f1 6 a = some (.int .i64 i) from (M.at_.ones 6 (by decide) (by decide) a).trans (by show (k.ones 6 a).map (Value.int .i64) = _; rw [H6.out]; rfl))
 go_wp2
 clear c5
 have c5 := Later.cell (M.own.get 0 rfl)
 have cm : ∀ q : Later _, q.1.cell? ⟨p, 5, none⟩ = some (.map (some (mb 6))) := fun q => (M.kept q.2).at_.blk.cell 5
 have lk : ∀ q : Later _, (Instr.lookup 117 (.map (some (mb 6))) (.int .i64 a) true).run Try.prog q.1 = .ok (.tuple #[.int .i64 i, .bool true]) q.1 := fun q => by
   have := look_okV ((M.kept q.2).at_.maps 6 (by decide)) 117 3 (.int .i64 0) Try.underlying117 (zero3 _) (a) HWA.out
   rwa [HF6.out] at this
 refine wp_quiet_later (by kernel_rfl) (by kernel_rfl) ?_
 repeat (first | go_big_quiet_skip | go_big_quiet_step (fail))
 refine kq fun p' => ?_
 replace M := M.kept p'.2
 clear c5 cm lk
 generalize p'.1 = W3 at M ⊢
 have HLEN := Lib.hid (show (ownL k who).length ≤ 1000000 by have := HFR.out; omega)
 go_wp2_with (first
   | (go_at_call 95; refine (sort_mint M.row.hrow HLEN.out).mono ?_; rintro e W4 ⟨rfl, hR1, K1⟩; have HR1 := Lib.hid hR1; have HK1 := Lib.hid K1; clear hR1 K1)
   | (go_at_call 96; refine (compact_row HR1.out (by rw [sc_length]; exact HLEN.out)).mono ?_; rintro e W5 ⟨v2, rfl, e2, hR2, K2⟩; obtain ⟨q1, q2, q3, q4⟩ := M.done HK1.out K2 e2; have HQ := Lib.hid (And.intro hR2 (And.intro q1 (And.intro q2 (And.intro q3 q4)))); clear e2 hR2 K2 q1 q2 q3 q4 M)
   | go_big_skip)
 go_ret
 obtain ⟨q0, q1, q2, q3, q4⟩ := HQ.out
 rw [← HN1.out] at q0
 exact ⟨v2, _, _, rfl, q0, (by rw [HN2.out]; exact q1.mono (by omega)), q2, q3, q4⟩
set_option maxRecDepth 100000 in
set_option maxHeartbeats 2000000 in
theorem lnext_7b (hl : LinksAt w F rooms p mb f k m base) (hwf : (Lit.int .i64 who).wf = true) (hwa : (Lit.int .i64 a).wf = true) (hm : m ≤ 100000) (hb : ∀ i a, (k.rows i a).length ≤ 100000) (h6 : k.ones 6 a = none) :
   Calls Try.prog 70 #[.pointer (some ⟨p, 0, none⟩), .int .i64 j, .agg #[Value.int .i64 who, .int .i64 7, .int .i64 a, .int .i64 v, .bool sh]] w (LNextPost w F rooms p mb k m base j ⟨who, 7, a, v, sh⟩ rm) := by
 have O := Own.start w []
 have HL := Lib.hid hl
 have HWF := Lib.hid hwf
 have HWA := Lib.hid hwa
 have HM := Lib.hid hm
 have HB := Lib.hid hb
 have HM1 := Lib.hid (show m < maxLen by simp only [maxLen]; omega)
 have HM2 := Lib.hid (show m + 1 < maxLen by simp only [maxLen]; omega)
 have HN1 := Lib.hid (show nextR k rm ⟨who, 7, a, v, sh⟩ = ownL k who by simp [nextR])
 have HN2 := Lib.hid (show nextK k j ⟨who, 7, a, v, sh⟩ = oneK (ownK k who j) 6 a j by simp [nextK, h6])
 have H6 := Lib.hid h6
 clear h6
 clear hl hwf hwa hm hb
 go_enter Try.func70, Try.ntmps70
 go_wp2_with (first
   | (refine own_boxK 5 (#[Value.int .i64 who, .int .i64 7, .int .i64 a, .int .i64 v, .bool sh]) O rfl rfl rfl rfl ?_; clear O; intro W b5 O _ HB5'; have HB5 := Lib.hid HB5'; clear HB5'; simp only [Act.put, kA, kZ, kS])
   | (refine own_load 13 0 O rfl rfl rfl rfl rfl Try.underlying37 rfl (by kernel_rfl) ?_; simp only [Act.put, kA, kZ, kS])
   | (go_at_call 94; refine (own_any (HL.out.kept O.keep (by simp)) HWF.out HM1.out).mono ?_; rintro e W1 ⟨r, rfl, hM, hL, K⟩; obtain ⟨M, hR⟩ := NX.start O HL.out HB5.out hL K hM; clear O HL hM hL K; have HR := Lib.hid hR; clear hR; have c5 := (M.own.get 0 rfl).cell; have hfr : (ownL k who).length ≤ 1 := ownL_length k who; have HFR := Lib.hid hfr; clear hfr; generalize updN f 4 (updI (f 4) who (some (.int .i64 j))) = f1 at M)
   | go_big_skip)
 have HF6 := Lib.hid (show f1 6 a = none from (M.at_.ones 6 (by decide) (by decide) a).trans (by show (k.ones 6 a).map (Value.int .i64) = _; rw [H6.out]; rfl))
 go_wp2
 clear c5
 have c5 := Later.cell (M.own.get 0 rfl)
 have cm : ∀ q : Later _, q.1.cell? ⟨p, 5, none⟩ = some (.map (some (mb 6))) := fun q => (M.kept q.2).at_.blk.cell 5
 have lk : ∀ q : Later _, (Instr.lookup 117 (.map (some (mb 6))) (.int .i64 a) true).run Try.prog q.1 = .ok (.tuple #[.int .i64 0, .bool false]) q.1 := fun q => by
   have := look_okV ((M.kept q.2).at_.maps 6 (by decide)) 117 3 (.int .i64 0) Try.underlying117 (zero3 _) (a) HWA.out
   rwa [HF6.out] at this
 refine wp_quiet_later (by kernel_rfl) (by kernel_rfl) ?_
 repeat (first | go_big_quiet_skip | go_big_quiet_step (fail))
 refine kq fun p' => ?_
 replace M := M.kept p'.2
 clear c5 cm lk
 generalize p'.1 = W3 at M ⊢
 have c5 := (M.own.get 0 rfl).cell
 go_wp2
 clear c5
 have c5 := Later.cell (M.own.get 0 rfl)
 have cm : ∀ q : Later _, q.1.cell? ⟨p, 5, none⟩ = some (.map (some (mb 6))) := fun q => (M.kept q.2).at_.blk.cell 5
 refine wp_quiet_tail_later 7 (by kernel_rfl) (by kernel_rfl) ?_
 simp only [List.take, List.drop]
 repeat (first | go_big_quiet_skip | go_big_quiet_step (fail))
 refine kq fun p' => ?_
 replace M := M.kept p'.2
 clear c5 cm
 generalize p'.1 = W3 at M ⊢
 refine nx_one 6 a j 117 (.tmp 160) (.tmp 162) (.tmp 163) M (by decide) (by decide) rfl Try.underlying117 rfl rfl rfl rfl HWA.out HM2.out ?_
 clear M
 intro W M
 simp only [Act.put]
 have HLEN := Lib.hid (show (ownL k who).length ≤ 1000000 by have := HFR.out; omega)
 go_wp2_with (first
   | (go_at_call 95; refine (sort_mint M.row.hrow HLEN.out).mono ?_; rintro e W4 ⟨rfl, hR1, K1⟩; have HR1 := Lib.hid hR1; have HK1 := Lib.hid K1; clear hR1 K1)
   | (go_at_call 96; refine (compact_row HR1.out (by rw [sc_length]; exact HLEN.out)).mono ?_; rintro e W5 ⟨v2, rfl, e2, hR2, K2⟩; obtain ⟨q1, q2, q3, q4⟩ := M.done HK1.out K2 e2; have HQ := Lib.hid (And.intro hR2 (And.intro q1 (And.intro q2 (And.intro q3 q4)))); clear e2 hR2 K2 q1 q2 q3 q4 M)
   | go_big_skip)
 go_ret
 obtain ⟨q0, q1, q2, q3, q4⟩ := HQ.out
 rw [← HN1.out] at q0
 exact ⟨v2, _, _, rfl, q0, (by rw [HN2.out]; exact q1), q2, q3, q4⟩
set_option maxRecDepth 100000 in
set_option maxHeartbeats 2000000 in
theorem lnext_6s (hl : LinksAt w F rooms p mb f k m base) (hwf : (Lit.int .i64 who).wf = true) (hwa : (Lit.int .i64 a).wf = true) (hm : m ≤ 100000) (hb : ∀ i a, (k.rows i a).length ≤ 100000) {c6 : Int} (h6 : (k.ones 6 a).getD 0 = c6) :
   Calls Try.prog 70 #[.pointer (some ⟨p, 0, none⟩), .int .i64 j, .agg #[Value.int .i64 who, .int .i64 6, .int .i64 a, .int .i64 v, .bool true]] w (LNextPost w F rooms p mb k m base j ⟨who, 6, a, v, true⟩ rm) := by
 have O := Own.start w []
 have HL := Lib.hid hl
 have HWF := Lib.hid hwf
 have HWA := Lib.hid hwa
 have HM := Lib.hid hm
 have HB := Lib.hid hb
 have HM1 := Lib.hid (show m < maxLen by simp only [maxLen]; omega)
 have HM2 := Lib.hid (show m + 1 < maxLen by simp only [maxLen]; omega)
 have HN1 := Lib.hid (show nextR k rm ⟨who, 6, a, v, true⟩ = ownL k who ++ [c6] by simp [nextR, h6])
 have HN2 := Lib.hid (show nextK k j ⟨who, 6, a, v, true⟩ = ownK k who j by simp [nextK])
 have H6 := Lib.hid h6
 clear h6
 clear hl hwf hwa hm hb
 go_enter Try.func70, Try.ntmps70
 go_wp2_with (first
   | (refine own_boxK 5 (#[Value.int .i64 who, .int .i64 6, .int .i64 a, .int .i64 v, .bool true]) O rfl rfl rfl rfl ?_; clear O; intro W b5 O _ HB5'; have HB5 := Lib.hid HB5'; clear HB5'; simp only [Act.put, kA, kZ, kS])
   | (refine own_load 13 0 O rfl rfl rfl rfl rfl Try.underlying37 rfl (by kernel_rfl) ?_; simp only [Act.put, kA, kZ, kS])
   | (go_at_call 94; refine (own_any (HL.out.kept O.keep (by simp)) HWF.out HM1.out).mono ?_; rintro e W1 ⟨r, rfl, hM, hL, K⟩; obtain ⟨M, hR⟩ := NX.start O HL.out HB5.out hL K hM; clear O HL hM hL K; have HR := Lib.hid hR; clear hR; have c5 := (M.own.get 0 rfl).cell; have hfr : (ownL k who).length ≤ 1 := ownL_length k who; have HFR := Lib.hid hfr; clear hfr; generalize updN f 4 (updI (f 4) who (some (.int .i64 j))) = f1 at M)
   | go_big_skip)
 have HC6 := Lib.hid (show (f1 6 a).getD (Value.int .i64 0) = .int .i64 c6 by rw [show f1 6 a = (k.ones 6 a).map (Value.int .i64) from M.at_.ones 6 (by decide) (by decide) a, ← H6.out]; cases k.ones 6 a <;> rfl)
 go_wp2
 clear c5
 refine wp_headH (S := fun u => S3 u p (rooms) mb f1 (m + 1) b5 (#[Value.int .i64 who, .int .i64 6, .int .i64 a, .int .i64 v, .bool true]) ∧ True) 10 (by kernel_rfl) (by kernel_rfl) ?_
 replace M := M.kept (Keeps.refl _ _).drew
 refine ah_take (f := 2) (L' := #[true, true, true, true, true, true, true, true, false, false, false]) (⟨by first | exact NX.s3 M (by simp) | exact PX.s3 M (by decide) (by simp), True.intro⟩) [0, 1, 2, 3, 4, 5, 6, 7] [_, _, _, _, _, _, _, _] _ _ rfl (by decide) (by kernel_rfl) ?_
 simp only [List.getElem_toArray, List.getElem_cons_zero, List.getElem_cons_succ]
 repeat (first
   | (refine take_pure (v := ?_) (by rfl) ?_ ?_; rotate_left; (· (intro w hSw; have c5 := (S3.ev (And.left hSw)).cell; have cm : w.cell? ⟨p, 5, none⟩ = some (.map (some (mb 6))) := (S3.blk (And.left hSw)).cell 5; have lk : (Instr.lookup 117 (.map (some (mb 6))) (.int .i64 a) false).run Try.prog w = .ok (.int .i64 c6) w := (by have := look_eqV ((S3.maps (And.left hSw)) 6 (by decide)) 117 3 (.int .i64 0) Try.underlying117 (zero3 _) (a) HWA.out; rwa [HC6.out] at this); clear hSw; go_simp; try with_reducible rfl)); simp only [Act.put, kA, kZ, kS]))
 refine takeA_done ?_
 refine ah_sole 8 #[true, true, true, true, true, true, true, true, true, false, false] rfl (by decide) (by kernel_rfl) ?_
 try simp only [List.getElem_toArray, List.getElem_cons_zero, List.getElem_cons_succ]
 refine nx_lit 104 c6 M rfl rfl rfl rfl ?_; clear M; intro W gl M; simp only [Act.put, kA, kZ, kS]
 (first | refine backA_intro2 (⟨by first | exact NX.s3 M (by simp) | exact PX.s3 M (by decide) (by simp), True.intro⟩) ?_ | refine backA_intro (⟨by first | exact NX.s3 M (by simp) | exact PX.s3 M (by decide) (by simp), True.intro⟩) ?_)
 refine ah_sole 9 #[true, true, true, true, true, true, true, true, true, true, false] rfl (by decide) (by kernel_rfl) ?_
 try simp only [List.getElem_toArray, List.getElem_cons_zero, List.getElem_cons_succ]
 go_wp2_with (at_builtin; refine nx_from1 c6 gl (.tmp 96) (.tmp 104) M rfl rfl rfl rfl HR.out (by have := HFR.out; omega) ?_; clear M HR; intro v' W M hR; simp only [Act.put, kA, kZ, kS])
 (first | refine backA_intro2 (⟨by first | exact NX.s3 M (by simp) | exact PX.s3 M (by decide) (by simp), True.intro⟩) ?_ | refine backA_intro (⟨by first | exact NX.s3 M (by simp) | exact PX.s3 M (by decide) (by simp), True.intro⟩) ?_)
 refine ah_tail (by kernel_rfl) ?_
 try simp only [List.drop]
 go_wp2_with (first | go_big_skip)
 refine np_intro ?_
 have HLEN := Lib.hid (show (ownL k who ++ [c6]).length ≤ 1000000 by have := HFR.out; rw [List.length_append]; simp; omega)
 go_wp2_with (first
   | (go_at_call 95; refine (sort_mint M.row.hrow HLEN.out).mono ?_; rintro e W4 ⟨rfl, hR1, K1⟩; have HR1 := Lib.hid hR1; have HK1 := Lib.hid K1; clear hR1 K1)
   | (go_at_call 96; refine (compact_row HR1.out (by rw [sc_length]; exact HLEN.out)).mono ?_; rintro e W5 ⟨v2, rfl, e2, hR2, K2⟩; obtain ⟨q1, q2, q3, q4⟩ := M.done HK1.out K2 e2; have HQ := Lib.hid (And.intro hR2 (And.intro q1 (And.intro q2 (And.intro q3 q4)))); clear e2 hR2 K2 q1 q2 q3 q4 M)
   | go_big_skip)
 go_ret
 obtain ⟨q0, q1, q2, q3, q4⟩ := HQ.out
 rw [← HN1.out] at q0
 exact ⟨v2, _, _, rfl, q0, (by rw [HN2.out]; exact q1.mono (by omega)), q2, q3, q4⟩
set_option maxRecDepth 100000 in
set_option maxHeartbeats 2000000 in
theorem lnext_6t (hl : LinksAt w F rooms p mb f k m base) (hwf : (Lit.int .i64 who).wf = true) (hwa : (Lit.int .i64 a).wf = true) (hm : m ≤ 100000) (hb : ∀ i a, (k.rows i a).length ≤ 100000) (h6 : (k.rows 1 a).length < (k.rows 0 a).length) :
   Calls Try.prog 70 #[.pointer (some ⟨p, 0, none⟩), .int .i64 j, .agg #[Value.int .i64 who, .int .i64 6, .int .i64 a, .int .i64 v, .bool false]] w (LNextPost w F rooms p mb k m base j ⟨who, 6, a, v, false⟩ rm) := by
 have O := Own.start w []
 have HL := Lib.hid hl
 have HWF := Lib.hid hwf
 have HWA := Lib.hid hwa
 have HM := Lib.hid hm
 have HB := Lib.hid hb
 have HM1 := Lib.hid (show m < maxLen by simp only [maxLen]; omega)
 have HM2 := Lib.hid (show m + 1 < maxLen by simp only [maxLen]; omega)
 have HN1 := Lib.hid (show nextR k rm ⟨who, 6, a, v, false⟩ = ownL k who ++ [(k.rows 0 a).getD (k.rows 1 a).length 0] by simp [nextR])
 have HN2 := Lib.hid (show nextK k j ⟨who, 6, a, v, false⟩ = pushK (ownK k who j) 1 a j by simp [nextK])
 have H6 := Lib.hid h6
 clear h6
 clear hl hwf hwa hm hb
 go_enter Try.func70, Try.ntmps70
 go_wp2_with (first
   | (refine own_boxK 5 (#[Value.int .i64 who, .int .i64 6, .int .i64 a, .int .i64 v, .bool false]) O rfl rfl rfl rfl ?_; clear O; intro W b5 O _ HB5'; have HB5 := Lib.hid HB5'; clear HB5'; simp only [Act.put, kA, kZ, kS])
   | (refine own_load 13 0 O rfl rfl rfl rfl rfl Try.underlying37 rfl (by kernel_rfl) ?_; simp only [Act.put, kA, kZ, kS])
   | (go_at_call 94; refine (own_any (HL.out.kept O.keep (by simp)) HWF.out HM1.out).mono ?_; rintro e W1 ⟨r, rfl, hM, hL, K⟩; obtain ⟨M, hR⟩ := NX.start O HL.out HB5.out hL K hM; clear O HL hM hL K; have HR := Lib.hid hR; clear hR; have c5 := (M.own.get 0 rfl).cell; have hfr : (ownL k who).length ≤ 1 := ownL_length k who; have HFR := Lib.hid hfr; clear hfr; generalize updN f 4 (updI (f 4) who (some (.int .i64 j))) = f1 at M)
   | go_big_skip)
 go_wp2
 clear c5
 refine wp_headH (S := fun u => S3 u p (rooms) mb f1 (m + 1) b5 (#[Value.int .i64 who, .int .i64 6, .int .i64 a, .int .i64 v, .bool false]) ∧ True) 16 (by kernel_rfl) (by kernel_rfl) ?_
 replace M := M.kept (Keeps.refl _ _).drew
 refine ah_take (f := 2) (L' := #[true, true, true, true, true, true, true, true, true, true, true, true, true, true, false, false, false]) (⟨by first | exact NX.s3 M (by simp) | exact PX.s3 M (by decide) (by simp), True.intro⟩) [0, 1, 2, 3, 4, 5, 6, 7, 8, 9, 10, 11, 12, 13] [_, _, _, _, _, _, _, _, _, _, _, _, _, _] _ _ rfl (by decide) (by kernel_rfl) ?_
 simp only [List.getElem_toArray, List.getElem_cons_zero, List.getElem_cons_succ]
 repeat (first
   | (refine take_pure (v := ?_) (by rfl) ?_ ?_; rotate_left; (· (intro w hSw; have c5 := (S3.ev (And.left hSw)).cell; have cm : w.cell? ⟨p, 4, none⟩ = some (.map (some (mb 1))) := (S3.blk (And.left hSw)).cell 4; have lk : (Instr.lookup 159 (.map (some (mb 1))) (.int .i64 a) false).run Try.prog w = .ok (rowV f1 1 a) w := (by have := look_eqV ((S3.maps (And.left hSw)) 1 (by decide)) 159 25 (.slice none 0 0) Try.underlying159 (zero25 _) (a) HWA.out; exact this); clear hSw; go_simp; try with_reducible rfl)); simp only [Act.put, kA, kZ, kS]))
 refine takeA_done ?_
 refine ah_sole 14 #[true, true, true, true, true, true, true, true, true, true, true, true, true, true, true, false, false] rfl (by decide) (by kernel_rfl) ?_
 try simp only [List.getElem_toArray, List.getElem_cons_zero, List.getElem_cons_succ]
 refine nx_lit 120 j M rfl rfl rfl rfl ?_; clear M; intro W gl M; simp only [Act.put, kA, kZ, kS]
 (first | refine backA_intro2 (⟨by first | exact NX.s3 M (by simp) | exact PX.s3 M (by decide) (by simp), True.intro⟩) ?_ | refine backA_intro (⟨by first | exact NX.s3 M (by simp) | exact PX.s3 M (by decide) (by simp), True.intro⟩) ?_)
 refine ah_sole 15 #[true, true, true, true, true, true, true, true, true, true, true, true, true, true, true, true, false] rfl (by decide) (by kernel_rfl) ?_
 try simp only [List.getElem_toArray, List.getElem_cons_zero, List.getElem_cons_succ]
 go_wp2_with (at_builtin; refine nx_app 1 a j gl (.tmp 118) (.tmp 120) M (by decide) rfl rfl rfl rfl (Nat.le_trans (HB.out 1 a) (by decide)) ?_; clear M; intro v' W M; simp only [Act.put, kA, kZ, kS])
 (first | refine backA_intro2 (⟨by first | exact NX.s3 M (by simp) | exact PX.s3 M (by decide) (by simp), True.intro⟩) ?_ | refine backA_intro (⟨by first | exact NX.s3 M (by simp) | exact PX.s3 M (by decide) (by simp), True.intro⟩) ?_)
 refine ah_tail (by kernel_rfl) ?_
 try simp only [List.drop]
 refine nx_upd 1 a v' _ 159 (.tmp 109) (.tmp 111) (.tmp 121) M (by decide) rfl Try.underlying159 rfl rfl rfl rfl HWA.out HM2.out ?_
 clear M
 intro W F2 M
 simp only [Act.put]
 have c5 := (M.own.get 0 rfl).cell
 refine np_intro ?_
 generalize updN f1 1 (updI (f1 1) a (some v')) = f2 at M
 obtain ⟨A0, q0, e0, hx0⟩ := (M.at_.rows 0 (by decide) a).shape
 obtain ⟨A1, q1, e1, _⟩ := (M.at_.rows 1 (by decide) a).shape
 obtain ⟨ads, rfl, hcell⟩ := hx0 (k.rows 1 a).length H6.out
 obtain ⟨nt, hnt⟩ : ∃ nt, nt = (k.rows 1 a).length := ⟨_, rfl⟩
 obtain ⟨n1, hn1⟩ : ∃ n1, n1 = nt + 1 := ⟨_, rfl⟩
 obtain ⟨ns, hns⟩ : ∃ ns, ns = (k.rows 0 a).length := ⟨_, rfl⟩
 obtain ⟨y, hy⟩ : ∃ y, y = (k.rows 0 a).getD nt 0 := ⟨_, rfl⟩
 have HE0 := Lib.hid (show rowV f2 0 a = .slice (some ads) ns q0 by rw [e0, hns]; rfl)
 have HE1 := Lib.hid (show rowV f2 1 a = .slice A1 n1 q1 by rw [e1, hn1, hnt]; simp [updN, updI, ownK])
 have HY := Lib.hid (show y = (k.rows 0 a).getD (k.rows 1 a).length 0 by rw [hy, hnt])
 have g1 : (nt : Int) < (ns : Int) := by have := H6.out; omega
 have g0 : (0 : Int) ≤ (nt : Int) := by omega
 have r1 : IntKind.i64.wrap ((n1 : Int) - 1) = (nt : Int) := by
   rw [show (n1 : Int) - 1 = (nt : Int) by omega]
   exact IntWalk.i64_in _ (by have := HB.out 1 a; omega)
 have HX := Lib.hid (show ∀ u L r fr F2 m, NX w u F F2 rooms p mb f2 (pushK (ownK k who j) 1 a j) m base L r fr → u.cell? (ads.add nt) = some (.int .i64 y) from fun u L r fr F2 m M => by
   have h := M.at_.rows 0 (by decide) a
   rw [HE0.out] at h
   have h2 := h.cellOf (q := nt) (show nt < (k.rows 0 a).length by rw [hnt]; exact H6.out)
   rw [h2, hy]
   rfl)
 clear e0 e1 hx0 hcell hy hns hn1 hnt
 go_wp2
 clear c5
 refine wp_headH (S := fun u => S3 u p (rooms) mb f2 (m + 1 + 1) b5 (#[Value.int .i64 who, .int .i64 6, .int .i64 a, .int .i64 v, .bool false]) ∧ u.cell? (ads.add nt) = some (.int .i64 y)) 21 (by kernel_rfl) (by kernel_rfl) ?_
 replace M := M.kept (Keeps.refl _ _).drew
 refine ah_take (f := 2) (L' := #[true, true, true, true, true, true, true, true, true, true, true, true, true, true, true, true, true, true, true, false, false, false]) (⟨by first | exact NX.s3 M (by simp) | exact PX.s3 M (by decide) (by simp), by first | exact HX.out _ _ _ _ _ _ M⟩) [0, 1, 2, 3, 4, 5, 6, 7, 8, 9, 10, 11, 12, 13, 14, 15, 16, 17, 18] [_, _, _, _, _, _, _, _, _, _, _, _, _, _, _, _, _, _, _] _ _ rfl (by decide) (by kernel_rfl) ?_
 simp only [List.getElem_toArray, List.getElem_cons_zero, List.getElem_cons_succ]
 repeat (first
   | (refine take_pure (v := ?_) (by rfl) ?_ ?_; rotate_left; (· (intro w hSw; have c5 := (S3.ev (And.left hSw)).cell; have cm0 : w.cell? ⟨p, 3, none⟩ = some (.map (some (mb 0))) := (S3.blk (And.left hSw)).cell 3; have cm1 : w.cell? ⟨p, 4, none⟩ = some (.map (some (mb 1))) := (S3.blk (And.left hSw)).cell 4; have lk0 : (Instr.lookup 159 (.map (some (mb 0))) (.int .i64 a) false).run Try.prog w = .ok (.slice (some ads) ns q0) w := (by have := look_eqV ((S3.maps (And.left hSw)) 0 (by decide)) 159 25 (.slice none 0 0) Try.underlying159 (zero25 _) (a) HWA.out; rw [show (f2 0 a).getD (.slice none 0 0) = .slice (some ads) ns q0 from HE0.out] at this; exact this); have lk1 : (Instr.lookup 159 (.map (some (mb 1))) (.int .i64 a) false).run Try.prog w = .ok (.slice A1 n1 q1) w := (by have := look_eqV ((S3.maps (And.left hSw)) 1 (by decide)) 159 25 (.slice none 0 0) Try.underlying159 (zero25 _) (a) HWA.out; rw [show (f2 1 a).getD (.slice none 0 0) = .slice A1 n1 q1 from HE1.out] at this; exact this); have ck := And.right hSw; clear hSw; go_simp; try with_reducible rfl)); simp only [Act.put, kA, kZ, kS]))
 refine takeA_done ?_
 refine ah_sole 19 #[true, true, true, true, true, true, true, true, true, true, true, true, true, true, true, true, true, true, true, true, false, false] rfl (by decide) (by kernel_rfl) ?_
 try simp only [List.getElem_toArray, List.getElem_cons_zero, List.getElem_cons_succ]
 refine nx_lit 141 y M rfl rfl rfl rfl ?_; clear M; intro W gl M; simp only [Act.put, kA, kZ, kS]
 (first | refine backA_intro2 (⟨by first | exact NX.s3 M (by simp) | exact PX.s3 M (by decide) (by simp), by first | exact HX.out _ _ _ _ _ _ M⟩) ?_ | refine backA_intro (⟨by first | exact NX.s3 M (by simp) | exact PX.s3 M (by decide) (by simp), by first | exact HX.out _ _ _ _ _ _ M⟩) ?_)
 refine ah_sole 20 #[true, true, true, true, true, true, true, true, true, true, true, true, true, true, true, true, true, true, true, true, true, false] rfl (by decide) (by kernel_rfl) ?_
 try simp only [List.getElem_toArray, List.getElem_cons_zero, List.getElem_cons_succ]
 go_wp2_with (at_builtin; refine nx_from1 y gl (.tmp 122) (.tmp 141) M rfl rfl rfl rfl HR.out (by have := HFR.out; omega) ?_; clear M HR; intro v' W M hR; simp only [Act.put, kA, kZ, kS])
 (first | refine backA_intro2 (⟨by first | exact NX.s3 M (by simp) | exact PX.s3 M (by decide) (by simp), by first | exact HX.out _ _ _ _ _ _ M⟩) ?_ | refine backA_intro (⟨by first | exact NX.s3 M (by simp) | exact PX.s3 M (by decide) (by simp), by first | exact HX.out _ _ _ _ _ _ M⟩) ?_)
 refine ah_tail (by kernel_rfl) ?_
 try simp only [List.drop]
 have HN3 := Lib.hid (show nextR k rm ⟨who, 6, a, v, false⟩ = ownL k who ++ [y] from HN1.out.trans (by rw [← HY.out]))
 go_wp2_with (first | go_big_skip)
 refine np_intro ?_
 have HLEN := Lib.hid (show (ownL k who ++ [y]).length ≤ 1000000 by have := HFR.out; rw [List.length_append]; simp; omega)
 go_wp2_with (first
   | (go_at_call 95; refine (sort_mint M.row.hrow HLEN.out).mono ?_; rintro e W4 ⟨rfl, hR1, K1⟩; have HR1 := Lib.hid hR1; have HK1 := Lib.hid K1; clear hR1 K1)
   | (go_at_call 96; refine (compact_row HR1.out (by rw [sc_length]; exact HLEN.out)).mono ?_; rintro e W5 ⟨v2, rfl, e2, hR2, K2⟩; obtain ⟨q1, q2, q3, q4⟩ := M.done HK1.out K2 e2; have HQ := Lib.hid (And.intro hR2 (And.intro q1 (And.intro q2 (And.intro q3 q4)))); clear e2 hR2 K2 q1 q2 q3 q4 M)
   | go_big_skip)
 go_ret
 obtain ⟨q0, q1, q2, q3, q4⟩ := HQ.out
 rw [← HN3.out] at q0
 exact ⟨v2, _, _, rfl, q0, (by rw [HN2.out]; exact q1), q2, q3, q4⟩
set_option maxRecDepth 100000 in
set_option maxHeartbeats 2000000 in
theorem lnext_5a (hl : LinksAt w F rooms p mb f k m base) (hwf : (Lit.int .i64 who).wf = true) (hwa : (Lit.int .i64 (aN : Int)).wf = true) (hm : m ≤ 100000) (hb : ∀ i a, (k.rows i a).length ≤ 100000) {rad : Addr} {nr d : Nat} (hrm : rooms = .slice (some rad) nr d) (hrb : rad.block < base) (hrc : w.cell? (rad.add aN) = some (.int .i64 (rm aN))) (haN : aN < nr) (hrr : -1000 ≤ rm aN ∧ rm aN ≤ 1000000) (hcase : ((k.rows 0 (aN : Int)).length + 1 : Nat) - rm aN < 1) :
   Calls Try.prog 70 #[.pointer (some ⟨p, 0, none⟩), .int .i64 j, .agg #[Value.int .i64 who, .int .i64 5, .int .i64 (aN : Int), .int .i64 v, .bool sh]] w (LNextPost w F rooms p mb k m base j ⟨who, 5, (aN : Int), v, sh⟩ rm) := by
 have O := Own.start w []
 have HL := Lib.hid hl
 have HWF := Lib.hid hwf
 have HWA := Lib.hid hwa
 have HM := Lib.hid hm
 have HB := Lib.hid hb
 have HM1 := Lib.hid (show m < maxLen by simp only [maxLen]; omega)
 have HM2 := Lib.hid (show m + 1 < maxLen by simp only [maxLen]; omega)
 subst hrm
 have HN2 := Lib.hid (show nextK k j ⟨who, 5, (aN : Int), v, sh⟩ = pushK (ownK k who j) 0 (aN : Int) j by simp [nextK])
 obtain ⟨nt, hnt⟩ : ∃ nt, nt = (k.rows 1 (aN : Int)).length := ⟨_, rfl⟩
 obtain ⟨s1, hs1⟩ : ∃ s1, s1 = (k.rows 0 (aN : Int)).length + 1 := ⟨_, rfl⟩
 obtain ⟨rma, hrma⟩ : ∃ rma, rma = rm aN := ⟨_, rfl⟩
 obtain ⟨nn, hnn⟩ : ∃ nn, nn = (s1 : Int) - rma := ⟨_, rfl⟩
 have HS1 := Lib.hid (And.intro hs1 hnt)
 rw [← hs1, ← hrma, ← hnn] at hcase
 rw [← hrma] at hrc hrr
 have HN1 := Lib.hid (show nextR k rm ⟨who, 5, (aN : Int), v, sh⟩ = ownL k who by simp only [nextR, if_true]; rw [if_neg (by rw [← hs1, ← hrma, ← hnn, ← hnt]; omega), List.append_nil])
 have q8 : decide ((1 : Int) ≤ nn) = false := decide_eq_false (by omega)
 have q7 : ¬ (1 : Int) ≤ nn := by omega
 have r1 : IntKind.i64.wrap ((s1 : Int) - rma) = nn := by
   rw [← hnn]
   exact IntWalk.i64_in _ (by have := hb 0 (aN : Int); omega)
 have g9 : (0 : Int) ≤ (aN : Int) := by omega
 have g8 : (aN : Int) < (nr : Int) := by omega
 have HRC := Lib.hid (show ∀ u, Keeps w u F → u.cell? (rad.add aN) = some (.int .i64 rma) from fun u K => by
   have h1 : rad.block < w.heap.size := by have := World.block_lt_of_cell? w _ hrc; rwa [add_block] at this
   rw [K.cellAt (by rw [add_block]; exact h1) (by rw [add_block]; intro hm; have := (hl.ltF _ hm).1; omega)]
   exact hrc)
 clear hs1 hnt hrma hnn hrc hrr hrb haN hcase
 clear hl hwf hwa hm hb
 go_enter Try.func70, Try.ntmps70
 go_wp2_with (first
   | (refine own_boxK 5 (#[Value.int .i64 who, .int .i64 5, .int .i64 (aN : Int), .int .i64 v, .bool sh]) O rfl rfl rfl rfl ?_; clear O; intro W b5 O _ HB5'; have HB5 := Lib.hid HB5'; clear HB5'; simp only [Act.put, kA, kZ, kS])
   | (refine own_load 13 0 O rfl rfl rfl rfl rfl Try.underlying37 rfl (by kernel_rfl) ?_; simp only [Act.put, kA, kZ, kS])
   | (go_at_call 94; refine (own_any (HL.out.kept O.keep (by simp)) HWF.out HM1.out).mono ?_; rintro e W1 ⟨r, rfl, hM, hL, K⟩; obtain ⟨M, hR⟩ := NX.start O HL.out HB5.out hL K hM; clear O HL hM hL K; have HR := Lib.hid hR; clear hR; have c5 := (M.own.get 0 rfl).cell; have hfr : (ownL k who).length ≤ 1 := ownL_length k who; have HFR := Lib.hid hfr; clear hfr; generalize updN f 4 (updI (f 4) who (some (.int .i64 j))) = f1 at M)
   | go_big_skip)
 go_wp2
 clear c5
 refine wp_headH (S := fun u => S3 u p (.slice (some rad) nr d) mb f1 (m + 1) b5 (#[Value.int .i64 who, .int .i64 5, .int .i64 (aN : Int), .int .i64 v, .bool sh]) ∧ True) 16 (by kernel_rfl) (by kernel_rfl) ?_
 replace M := M.kept (Keeps.refl _ _).drew
 refine ah_take (f := 2) (L' := #[true, true, true, true, true, true, true, true, true, true, true, true, true, true, false, false, false]) (⟨by first | exact NX.s3 M (by simp) | exact PX.s3 M (by decide) (by simp), True.intro⟩) [0, 1, 2, 3, 4, 5, 6, 7, 8, 9, 10, 11, 12, 13] [_, _, _, _, _, _, _, _, _, _, _, _, _, _] _ _ rfl (by decide) (by kernel_rfl) ?_
 simp only [List.getElem_toArray, List.getElem_cons_zero, List.getElem_cons_succ]
 repeat (first
   | (refine take_pure (v := ?_) (by rfl) ?_ ?_; rotate_left; (· (intro w hSw; have c5 := (S3.ev (And.left hSw)).cell; have cm : w.cell? ⟨p, 3, none⟩ = some (.map (some (mb 0))) := (S3.blk (And.left hSw)).cell 3; have lk : (Instr.lookup 159 (.map (some (mb 0))) (.int .i64 (aN : Int)) false).run Try.prog w = .ok (rowV f1 0 (aN : Int)) w := (by have := look_eqV ((S3.maps (And.left hSw)) 0 (by decide)) 159 25 (.slice none 0 0) Try.underlying159 (zero25 _) ((aN : Int)) HWA.out; exact this); clear hSw; go_simp; try with_reducible rfl)); simp only [Act.put, kA, kZ, kS]))
 refine takeA_done ?_
 refine ah_sole 14 #[true, true, true, true, true, true, true, true, true, true, true, true, true, true, true, false, false] rfl (by decide) (by kernel_rfl) ?_
 try simp only [List.getElem_toArray, List.getElem_cons_zero, List.getElem_cons_succ]
 refine nx_lit 45 j M rfl rfl rfl rfl ?_; clear M; intro W gl M; simp only [Act.put, kA, kZ, kS]
 (first | refine backA_intro2 (⟨by first | exact NX.s3 M (by simp) | exact PX.s3 M (by decide) (by simp), True.intro⟩) ?_ | refine backA_intro (⟨by first | exact NX.s3 M (by simp) | exact PX.s3 M (by decide) (by simp), True.intro⟩) ?_)
 refine ah_sole 15 #[true, true, true, true, true, true, true, true, true, true, true, true, true, true, true, true, false] rfl (by decide) (by kernel_rfl) ?_
 try simp only [List.getElem_toArray, List.getElem_cons_zero, List.getElem_cons_succ]
 go_wp2_with (at_builtin; refine nx_app 0 (aN : Int) j gl (.tmp 43) (.tmp 45) M (by decide) rfl rfl rfl rfl (Nat.le_trans (HB.out 0 (aN : Int)) (by decide)) ?_; clear M; intro v' W M; simp only [Act.put, kA, kZ, kS])
 (first | refine backA_intro2 (⟨by first | exact NX.s3 M (by simp) | exact PX.s3 M (by decide) (by simp), True.intro⟩) ?_ | refine backA_intro (⟨by first | exact NX.s3 M (by simp) | exact PX.s3 M (by decide) (by simp), True.intro⟩) ?_)
 refine ah_tail (by kernel_rfl) ?_
 try simp only [List.drop]
 refine nx_upd 0 (aN : Int) v' _ 159 (.tmp 34) (.tmp 36) (.tmp 46) M (by decide) rfl Try.underlying159 rfl rfl rfl rfl HWA.out HM2.out ?_
 clear M
 intro W F2 M
 simp only [Act.put]
 have c5 := (M.own.get 0 rfl).cell
 refine np_intro ?_
 generalize updN f1 0 (updI (f1 0) (aN : Int) (some v')) = f2 at M
 obtain ⟨A0, q0, e0, _⟩ := (M.at_.rows 0 (by decide) (aN : Int)).shape
 obtain ⟨A1, q1, e1, hx1⟩ := (M.at_.rows 1 (by decide) (aN : Int)).shape
 have HE0 := Lib.hid (show rowV f2 0 (aN : Int) = .slice A0 s1 q0 by rw [e0, HS1.out.1]; simp [updN, updI, ownK])
 have HE1 := Lib.hid (show rowV f2 1 (aN : Int) = .slice A1 nt q1 by rw [e1, HS1.out.2]; rfl)
 clear e0 e1 hx1
 go_wp2
 clear c5
 have c5 := Later.cell (M.own.get 0 rfl)
 have cm : ∀ q : Later _, q.1.cell? ⟨p, 3, none⟩ = some (.map (some (mb 0))) := fun q => (M.kept q.2).at_.blk.cell 3
 have cr : ∀ q : Later _, q.1.cell? ⟨p, 0, none⟩ = some (.slice (some rad) nr d) := fun q => (M.kept q.2).at_.blk.cell 0
 have lk0 : ∀ q : Later _, (Instr.lookup 159 (.map (some (mb 0))) (.int .i64 (aN : Int)) false).run Try.prog q.1 = .ok (.slice A0 s1 q0) q.1 := fun q => by
   have := look_eqV ((M.kept q.2).at_.maps 0 (by decide)) 159 25 (.slice none 0 0) Try.underlying159 (zero25 _) ((aN : Int)) HWA.out
   rw [show (f2 0 (aN : Int)).getD (.slice none 0 0) = .slice A0 s1 q0 from HE0.out] at this; exact this
 have ck : ∀ q : Later _, q.1.cell? (rad.add aN) = some (.int .i64 rma) := fun q => HRC.out _ (M.kept q.2).own.keep
 refine wp_quiet_later (by kernel_rfl) (by kernel_rfl) ?_
 repeat (first | go_big_quiet_skip | go_big_quiet_step (fail))
 refine kq fun p' => ?_
 replace M := M.kept p'.2
 clear c5 cm cr lk0 ck
 generalize p'.1 = W3 at M ⊢
 have c5 := (M.own.get 0 rfl).cell
 go_wp2
 clear c5
 have c5 := Later.cell (M.own.get 0 rfl)
 have cm : ∀ q : Later _, q.1.cell? ⟨p, 4, none⟩ = some (.map (some (mb 1))) := fun q => (M.kept q.2).at_.blk.cell 4
 have lk1 : ∀ q : Later _, (Instr.lookup 159 (.map (some (mb 1))) (.int .i64 (aN : Int)) false).run Try.prog q.1 = .ok (.slice A1 nt q1) q.1 := fun q => by
   have := look_eqV ((M.kept q.2).at_.maps 1 (by decide)) 159 25 (.slice none 0 0) Try.underlying159 (zero25 _) ((aN : Int)) HWA.out
   rw [show (f2 1 (aN : Int)).getD (.slice none 0 0) = .slice A1 nt q1 from HE1.out] at this; exact this
 refine wp_quiet_later (by kernel_rfl) (by kernel_rfl) ?_
 repeat (first | go_big_quiet_skip | go_big_quiet_step (fail))
 refine kq fun p' => ?_
 replace M := M.kept p'.2
 clear c5 cm lk1
 generalize p'.1 = W3 at M ⊢
 have HLEN := Lib.hid (show (ownL k who).length ≤ 1000000 by have := HFR.out; omega)
 go_wp2_with (first
   | (go_at_call 95; refine (sort_mint M.row.hrow HLEN.out).mono ?_; rintro e W4 ⟨rfl, hR1, K1⟩; have HR1 := Lib.hid hR1; have HK1 := Lib.hid K1; clear hR1 K1)
   | (go_at_call 96; refine (compact_row HR1.out (by rw [sc_length]; exact HLEN.out)).mono ?_; rintro e W5 ⟨v2, rfl, e2, hR2, K2⟩; obtain ⟨q1, q2, q3, q4⟩ := M.done HK1.out K2 e2; have HQ := Lib.hid (And.intro hR2 (And.intro q1 (And.intro q2 (And.intro q3 q4)))); clear e2 hR2 K2 q1 q2 q3 q4 M)
   | go_big_skip)
 go_ret
 obtain ⟨q0, q1, q2, q3, q4⟩ := HQ.out
 rw [← HN1.out] at q0
 exact ⟨v2, _, _, rfl, q0, (by rw [HN2.out]; exact q1), q2, q3, q4⟩
set_option maxRecDepth 100000 in
set_option maxHeartbeats 2000000 in
theorem lnext_5b (hl : LinksAt w F rooms p mb f k m base) (hwf : (Lit.int .i64 who).wf = true) (hwa : (Lit.int .i64 (aN : Int)).wf = true) (hm : m ≤ 100000) (hb : ∀ i a, (k.rows i a).length ≤ 100000) {rad : Addr} {nr d : Nat} (hrm : rooms = .slice (some rad) nr d) (hrb : rad.block < base) (hrc : w.cell? (rad.add aN) = some (.int .i64 (rm aN))) (haN : aN < nr) (hrr : -1000 ≤ rm aN ∧ rm aN ≤ 1000000) (hcase : 1 ≤ ((k.rows 0 (aN : Int)).length + 1 : Nat) - rm aN) (hcase2 : ((k.rows 1 (aN : Int)).length : Int) < ((k.rows 0 (aN : Int)).length + 1 : Nat) - rm aN) :
   Calls Try.prog 70 #[.pointer (some ⟨p, 0, none⟩), .int .i64 j, .agg #[Value.int .i64 who, .int .i64 5, .int .i64 (aN : Int), .int .i64 v, .bool sh]] w (LNextPost w F rooms p mb k m base j ⟨who, 5, (aN : Int), v, sh⟩ rm) := by
 have O := Own.start w []
 have HL := Lib.hid hl
 have HWF := Lib.hid hwf
 have HWA := Lib.hid hwa
 have HM := Lib.hid hm
 have HB := Lib.hid hb
 have HM1 := Lib.hid (show m < maxLen by simp only [maxLen]; omega)
 have HM2 := Lib.hid (show m + 1 < maxLen by simp only [maxLen]; omega)
 subst hrm
 have HN2 := Lib.hid (show nextK k j ⟨who, 5, (aN : Int), v, sh⟩ = pushK (ownK k who j) 0 (aN : Int) j by simp [nextK])
 obtain ⟨nt, hnt⟩ : ∃ nt, nt = (k.rows 1 (aN : Int)).length := ⟨_, rfl⟩
 obtain ⟨s1, hs1⟩ : ∃ s1, s1 = (k.rows 0 (aN : Int)).length + 1 := ⟨_, rfl⟩
 obtain ⟨rma, hrma⟩ : ∃ rma, rma = rm aN := ⟨_, rfl⟩
 obtain ⟨nn, hnn⟩ : ∃ nn, nn = (s1 : Int) - rma := ⟨_, rfl⟩
 have HS1 := Lib.hid (And.intro hs1 hnt)
 rw [← hs1, ← hrma, ← hnn] at hcase
 rw [← hrma] at hrc hrr
 rw [← hs1, ← hrma, ← hnn, ← hnt] at hcase2
 have HN1 := Lib.hid (show nextR k rm ⟨who, 5, (aN : Int), v, sh⟩ = ownL k who by simp only [nextR, if_true]; rw [if_neg (by rw [← hs1, ← hrma, ← hnn, ← hnt]; omega), List.append_nil])
 have q8 : decide ((1 : Int) ≤ nn) = true := decide_eq_true (by omega)
 have q7 : (1 : Int) ≤ nn := by omega
 have q6 : decide (nn ≤ (nt : Int)) = false := decide_eq_false (by omega)
 have q5 : ¬ nn ≤ (nt : Int) := by omega
 clear hcase2
 have r1 : IntKind.i64.wrap ((s1 : Int) - rma) = nn := by
   rw [← hnn]
   exact IntWalk.i64_in _ (by have := hb 0 (aN : Int); omega)
 have g9 : (0 : Int) ≤ (aN : Int) := by omega
 have g8 : (aN : Int) < (nr : Int) := by omega
 have HRC := Lib.hid (show ∀ u, Keeps w u F → u.cell? (rad.add aN) = some (.int .i64 rma) from fun u K => by
   have h1 : rad.block < w.heap.size := by have := World.block_lt_of_cell? w _ hrc; rwa [add_block] at this
   rw [K.cellAt (by rw [add_block]; exact h1) (by rw [add_block]; intro hm; have := (hl.ltF _ hm).1; omega)]
   exact hrc)
 clear hs1 hnt hrma hnn hrc hrr hrb haN hcase
 clear hl hwf hwa hm hb
 go_enter Try.func70, Try.ntmps70
 go_wp2_with (first
   | (refine own_boxK 5 (#[Value.int .i64 who, .int .i64 5, .int .i64 (aN : Int), .int .i64 v, .bool sh]) O rfl rfl rfl rfl ?_; clear O; intro W b5 O _ HB5'; have HB5 := Lib.hid HB5'; clear HB5'; simp only [Act.put, kA, kZ, kS])
   | (refine own_load 13 0 O rfl rfl rfl rfl rfl Try.underlying37 rfl (by kernel_rfl) ?_; simp only [Act.put, kA, kZ, kS])
   | (go_at_call 94; refine (own_any (HL.out.kept O.keep (by simp)) HWF.out HM1.out).mono ?_; rintro e W1 ⟨r, rfl, hM, hL, K⟩; obtain ⟨M, hR⟩ := NX.start O HL.out HB5.out hL K hM; clear O HL hM hL K; have HR := Lib.hid hR; clear hR; have c5 := (M.own.get 0 rfl).cell; have hfr : (ownL k who).length ≤ 1 := ownL_length k who; have HFR := Lib.hid hfr; clear hfr; generalize updN f 4 (updI (f 4) who (some (.int .i64 j))) = f1 at M)
   | go_big_skip)
 go_wp2
 clear c5
 refine wp_headH (S := fun u => S3 u p (.slice (some rad) nr d) mb f1 (m + 1) b5 (#[Value.int .i64 who, .int .i64 5, .int .i64 (aN : Int), .int .i64 v, .bool sh]) ∧ True) 16 (by kernel_rfl) (by kernel_rfl) ?_
 replace M := M.kept (Keeps.refl _ _).drew
 refine ah_take (f := 2) (L' := #[true, true, true, true, true, true, true, true, true, true, true, true, true, true, false, false, false]) (⟨by first | exact NX.s3 M (by simp) | exact PX.s3 M (by decide) (by simp), True.intro⟩) [0, 1, 2, 3, 4, 5, 6, 7, 8, 9, 10, 11, 12, 13] [_, _, _, _, _, _, _, _, _, _, _, _, _, _] _ _ rfl (by decide) (by kernel_rfl) ?_
 simp only [List.getElem_toArray, List.getElem_cons_zero, List.getElem_cons_succ]
 repeat (first
   | (refine take_pure (v := ?_) (by rfl) ?_ ?_; rotate_left; (· (intro w hSw; have c5 := (S3.ev (And.left hSw)).cell; have cm : w.cell? ⟨p, 3, none⟩ = some (.map (some (mb 0))) := (S3.blk (And.left hSw)).cell 3; have lk : (Instr.lookup 159 (.map (some (mb 0))) (.int .i64 (aN : Int)) false).run Try.prog w = .ok (rowV f1 0 (aN : Int)) w := (by have := look_eqV ((S3.maps (And.left hSw)) 0 (by decide)) 159 25 (.slice none 0 0) Try.underlying159 (zero25 _) ((aN : Int)) HWA.out; exact this); clear hSw; go_simp; try with_reducible rfl)); simp only [Act.put, kA, kZ, kS]))
 refine takeA_done ?_
 refine ah_sole 14 #[true, true, true, true, true, true, true, true, true, true, true, true, true, true, true, false, false] rfl (by decide) (by kernel_rfl) ?_
 try simp only [List.getElem_toArray, List.getElem_cons_zero, List.getElem_cons_succ]
 refine nx_lit 45 j M rfl rfl rfl rfl ?_; clear M; intro W gl M; simp only [Act.put, kA, kZ, kS]
 (first | refine backA_intro2 (⟨by first | exact NX.s3 M (by simp) | exact PX.s3 M (by decide) (by simp), True.intro⟩) ?_ | refine backA_intro (⟨by first | exact NX.s3 M (by simp) | exact PX.s3 M (by decide) (by simp), True.intro⟩) ?_)
 refine ah_sole 15 #[true, true, true, true, true, true, true, true, true, true, true, true, true, true, true, true, false] rfl (by decide) (by kernel_rfl) ?_
 try simp only [List.getElem_toArray, List.getElem_cons_zero, List.getElem_cons_succ]
 go_wp2_with (at_builtin; refine nx_app 0 (aN : Int) j gl (.tmp 43) (.tmp 45) M (by decide) rfl rfl rfl rfl (Nat.le_trans (HB.out 0 (aN : Int)) (by decide)) ?_; clear M; intro v' W M; simp only [Act.put, kA, kZ, kS])
 (first | refine backA_intro2 (⟨by first | exact NX.s3 M (by simp) | exact PX.s3 M (by decide) (by simp), True.intro⟩) ?_ | refine backA_intro (⟨by first | exact NX.s3 M (by simp) | exact PX.s3 M (by decide) (by simp), True.intro⟩) ?_)
 refine ah_tail (by kernel_rfl) ?_
 try simp only [List.drop]
 refine nx_upd 0 (aN : Int) v' _ 159 (.tmp 34) (.tmp 36) (.tmp 46) M (by decide) rfl Try.underlying159 rfl rfl rfl rfl HWA.out HM2.out ?_
 clear M
 intro W F2 M
 simp only [Act.put]
 have c5 := (M.own.get 0 rfl).cell
 refine np_intro ?_
 generalize updN f1 0 (updI (f1 0) (aN : Int) (some v')) = f2 at M
 obtain ⟨A0, q0, e0, _⟩ := (M.at_.rows 0 (by decide) (aN : Int)).shape
 obtain ⟨A1, q1, e1, hx1⟩ := (M.at_.rows 1 (by decide) (aN : Int)).shape
 have HE0 := Lib.hid (show rowV f2 0 (aN : Int) = .slice A0 s1 q0 by rw [e0, HS1.out.1]; simp [updN, updI, ownK])
 have HE1 := Lib.hid (show rowV f2 1 (aN : Int) = .slice A1 nt q1 by rw [e1, HS1.out.2]; rfl)
 clear e0 e1 hx1
 go_wp2
 clear c5
 have c5 := Later.cell (M.own.get 0 rfl)
 have cm : ∀ q : Later _, q.1.cell? ⟨p, 3, none⟩ = some (.map (some (mb 0))) := fun q => (M.kept q.2).at_.blk.cell 3
 have cr : ∀ q : Later _, q.1.cell? ⟨p, 0, none⟩ = some (.slice (some rad) nr d) := fun q => (M.kept q.2).at_.blk.cell 0
 have lk0 : ∀ q : Later _, (Instr.lookup 159 (.map (some (mb 0))) (.int .i64 (aN : Int)) false).run Try.prog q.1 = .ok (.slice A0 s1 q0) q.1 := fun q => by
   have := look_eqV ((M.kept q.2).at_.maps 0 (by decide)) 159 25 (.slice none 0 0) Try.underlying159 (zero25 _) ((aN : Int)) HWA.out
   rw [show (f2 0 (aN : Int)).getD (.slice none 0 0) = .slice A0 s1 q0 from HE0.out] at this; exact this
 have ck : ∀ q : Later _, q.1.cell? (rad.add aN) = some (.int .i64 rma) := fun q => HRC.out _ (M.kept q.2).own.keep
 refine wp_quiet_later (by kernel_rfl) (by kernel_rfl) ?_
 repeat (first | go_big_quiet_skip | go_big_quiet_step (fail))
 refine kq fun p' => ?_
 replace M := M.kept p'.2
 clear c5 cm cr lk0 ck
 generalize p'.1 = W3 at M ⊢
 have c5 := (M.own.get 0 rfl).cell
 go_wp2
 clear c5
 have c5 := Later.cell (M.own.get 0 rfl)
 have cm : ∀ q : Later _, q.1.cell? ⟨p, 4, none⟩ = some (.map (some (mb 1))) := fun q => (M.kept q.2).at_.blk.cell 4
 have lk1 : ∀ q : Later _, (Instr.lookup 159 (.map (some (mb 1))) (.int .i64 (aN : Int)) false).run Try.prog q.1 = .ok (.slice A1 nt q1) q.1 := fun q => by
   have := look_eqV ((M.kept q.2).at_.maps 1 (by decide)) 159 25 (.slice none 0 0) Try.underlying159 (zero25 _) ((aN : Int)) HWA.out
   rw [show (f2 1 (aN : Int)).getD (.slice none 0 0) = .slice A1 nt q1 from HE1.out] at this; exact this
 refine wp_quiet_later (by kernel_rfl) (by kernel_rfl) ?_
 repeat (first | go_big_quiet_skip | go_big_quiet_step (fail))
 refine kq fun p' => ?_
 replace M := M.kept p'.2
 clear c5 cm lk1
 generalize p'.1 = W3 at M ⊢
 have HLEN := Lib.hid (show (ownL k who).length ≤ 1000000 by have := HFR.out; omega)
 go_wp2_with (first
   | (go_at_call 95; refine (sort_mint M.row.hrow HLEN.out).mono ?_; rintro e W4 ⟨rfl, hR1, K1⟩; have HR1 := Lib.hid hR1; have HK1 := Lib.hid K1; clear hR1 K1)
   | (go_at_call 96; refine (compact_row HR1.out (by rw [sc_length]; exact HLEN.out)).mono ?_; rintro e W5 ⟨v2, rfl, e2, hR2, K2⟩; obtain ⟨q1, q2, q3, q4⟩ := M.done HK1.out K2 e2; have HQ := Lib.hid (And.intro hR2 (And.intro q1 (And.intro q2 (And.intro q3 q4)))); clear e2 hR2 K2 q1 q2 q3 q4 M)
   | go_big_skip)
 go_ret
 obtain ⟨q0, q1, q2, q3, q4⟩ := HQ.out
 rw [← HN1.out] at q0
 exact ⟨v2, _, _, rfl, q0, (by rw [HN2.out]; exact q1), q2, q3, q4⟩
set_option maxRecDepth 100000 in
set_option maxHeartbeats 2000000 in
theorem lnext_5c (hl : LinksAt w F rooms p mb f k m base) (hwf : (Lit.int .i64 who).wf = true) (hwa : (Lit.int .i64 (aN : Int)).wf = true) (hm : m ≤ 100000) (hb : ∀ i a, (k.rows i a).length ≤ 100000) {rad : Addr} {nr d : Nat} (hrm : rooms = .slice (some rad) nr d) (hrb : rad.block < base) (hrc : w.cell? (rad.add aN) = some (.int .i64 (rm aN))) (haN : aN < nr) (hrr : -1000 ≤ rm aN ∧ rm aN ≤ 1000000) (hcase : 1 ≤ ((k.rows 0 (aN : Int)).length + 1 : Nat) - rm aN) (hcase2 : ((k.rows 0 (aN : Int)).length + 1 : Nat) - rm aN ≤ ((k.rows 1 (aN : Int)).length : Int)) :
   Calls Try.prog 70 #[.pointer (some ⟨p, 0, none⟩), .int .i64 j, .agg #[Value.int .i64 who, .int .i64 5, .int .i64 (aN : Int), .int .i64 v, .bool sh]] w (LNextPost w F rooms p mb k m base j ⟨who, 5, (aN : Int), v, sh⟩ rm) := by
 have O := Own.start w []
 have HL := Lib.hid hl
 have HWF := Lib.hid hwf
 have HWA := Lib.hid hwa
 have HM := Lib.hid hm
 have HB := Lib.hid hb
 have HM1 := Lib.hid (show m < maxLen by simp only [maxLen]; omega)
 have HM2 := Lib.hid (show m + 1 < maxLen by simp only [maxLen]; omega)
 subst hrm
 have HN2 := Lib.hid (show nextK k j ⟨who, 5, (aN : Int), v, sh⟩ = pushK (ownK k who j) 0 (aN : Int) j by simp [nextK])
 obtain ⟨nt, hnt⟩ : ∃ nt, nt = (k.rows 1 (aN : Int)).length := ⟨_, rfl⟩
 obtain ⟨s1, hs1⟩ : ∃ s1, s1 = (k.rows 0 (aN : Int)).length + 1 := ⟨_, rfl⟩
 obtain ⟨rma, hrma⟩ : ∃ rma, rma = rm aN := ⟨_, rfl⟩
 obtain ⟨nn, hnn⟩ : ∃ nn, nn = (s1 : Int) - rma := ⟨_, rfl⟩
 have HS1 := Lib.hid (And.intro hs1 hnt)
 rw [← hs1, ← hrma, ← hnn] at hcase
 rw [← hrma] at hrc hrr
 rw [← hs1, ← hrma, ← hnn, ← hnt] at hcase2
 obtain ⟨q, hq⟩ : ∃ q : Nat, nn = (q : Int) + 1 := ⟨(nn - 1).toNat, by omega⟩
 have HQQ := Lib.hid (show q < (k.rows 1 (aN : Int)).length by omega)
 obtain ⟨y, hy⟩ : ∃ y, y = (k.rows 1 (aN : Int)).getD q 0 := ⟨_, rfl⟩
 have HN1 := Lib.hid (show nextR k rm ⟨who, 5, (aN : Int), v, sh⟩ = ownL k who ++ [y] by
   simp only [nextR, if_true]
   rw [if_pos (by rw [← hs1, ← hrma, ← hnn, ← hnt]; omega), hy, ← hs1, ← hrma, ← hnn, hq, show ((q : Int) + 1 - 1).toNat = q by omega])
 have HY := Lib.hid hy
 have q8 : decide ((1 : Int) ≤ nn) = true := decide_eq_true (by omega)
 have q7 : (1 : Int) ≤ nn := by omega
 have q6 : decide (nn ≤ (nt : Int)) = true := decide_eq_true (by omega)
 have q5 : nn ≤ (nt : Int) := by omega
 have q4 : (q : Int) < (nt : Int) := by omega
 have q3 : (0 : Int) ≤ (q : Int) := by omega
 have r2 : IntKind.i64.wrap (nn - 1) = (q : Int) := by
   rw [show nn - 1 = (q : Int) by omega]
   exact IntWalk.i64_in _ (by have := hb 1 (aN : Int); omega)
 clear hcase2 hy hq
 have r1 : IntKind.i64.wrap ((s1 : Int) - rma) = nn := by
   rw [← hnn]
   exact IntWalk.i64_in _ (by have := hb 0 (aN : Int); omega)
 have g9 : (0 : Int) ≤ (aN : Int) := by omega
 have g8 : (aN : Int) < (nr : Int) := by omega
 have HRC := Lib.hid (show ∀ u, Keeps w u F → u.cell? (rad.add aN) = some (.int .i64 rma) from fun u K => by
   have h1 : rad.block < w.heap.size := by have := World.block_lt_of_cell? w _ hrc; rwa [add_block] at this
   rw [K.cellAt (by rw [add_block]; exact h1) (by rw [add_block]; intro hm; have := (hl.ltF _ hm).1; omega)]
   exact hrc)
 clear hs1 hnt hrma hnn hrc hrr hrb haN hcase
 clear hl hwf hwa hm hb
 go_enter Try.func70, Try.ntmps70
 go_wp2_with (first
   | (refine own_boxK 5 (#[Value.int .i64 who, .int .i64 5, .int .i64 (aN : Int), .int .i64 v, .bool sh]) O rfl rfl rfl rfl ?_; clear O; intro W b5 O _ HB5'; have HB5 := Lib.hid HB5'; clear HB5'; simp only [Act.put, kA, kZ, kS])
   | (refine own_load 13 0 O rfl rfl rfl rfl rfl Try.underlying37 rfl (by kernel_rfl) ?_; simp only [Act.put, kA, kZ, kS])
   | (go_at_call 94; refine (own_any (HL.out.kept O.keep (by simp)) HWF.out HM1.out).mono ?_; rintro e W1 ⟨r, rfl, hM, hL, K⟩; obtain ⟨M, hR⟩ := NX.start O HL.out HB5.out hL K hM; clear O HL hM hL K; have HR := Lib.hid hR; clear hR; have c5 := (M.own.get 0 rfl).cell; have hfr : (ownL k who).length ≤ 1 := ownL_length k who; have HFR := Lib.hid hfr; clear hfr; generalize updN f 4 (updI (f 4) who (some (.int .i64 j))) = f1 at M)
   | go_big_skip)
 go_wp2
 clear c5
 refine wp_headH (S := fun u => S3 u p (.slice (some rad) nr d) mb f1 (m + 1) b5 (#[Value.int .i64 who, .int .i64 5, .int .i64 (aN : Int), .int .i64 v, .bool sh]) ∧ True) 16 (by kernel_rfl) (by kernel_rfl) ?_
 replace M := M.kept (Keeps.refl _ _).drew
 refine ah_take (f := 2) (L' := #[true, true, true, true, true, true, true, true, true, true, true, true, true, true, false, false, false]) (⟨by first | exact NX.s3 M (by simp) | exact PX.s3 M (by decide) (by simp), True.intro⟩) [0, 1, 2, 3, 4, 5, 6, 7, 8, 9, 10, 11, 12, 13] [_, _, _, _, _, _, _, _, _, _, _, _, _, _] _ _ rfl (by decide) (by kernel_rfl) ?_
 simp only [List.getElem_toArray, List.getElem_cons_zero, List.getElem_cons_succ]
 repeat (first
   | (refine take_pure (v := ?_) (by rfl) ?_ ?_; rotate_left; (· (intro w hSw; have c5 := (S3.ev (And.left hSw)).cell; have cm : w.cell? ⟨p, 3, none⟩ = some (.map (some (mb 0))) := (S3.blk (And.left hSw)).cell 3; have lk : (Instr.lookup 159 (.map (some (mb 0))) (.int .i64 (aN : Int)) false).run Try.prog w = .ok (rowV f1 0 (aN : Int)) w := (by have := look_eqV ((S3.maps (And.left hSw)) 0 (by decide)) 159 25 (.slice none 0 0) Try.underlying159 (zero25 _) ((aN : Int)) HWA.out; exact this); clear hSw; go_simp; try with_reducible rfl)); simp only [Act.put, kA, kZ, kS]))
 refine takeA_done ?_
 refine ah_sole 14 #[true, true, true, true, true, true, true, true, true, true, true, true, true, true, true, false, false] rfl (by decide) (by kernel_rfl) ?_
 try simp only [List.getElem_toArray, List.getElem_cons_zero, List.getElem_cons_succ]
 refine nx_lit 45 j M rfl rfl rfl rfl ?_; clear M; intro W gl M; simp only [Act.put, kA, kZ, kS]
 (first | refine backA_intro2 (⟨by first | exact NX.s3 M (by simp) | exact PX.s3 M (by decide) (by simp), True.intro⟩) ?_ | refine backA_intro (⟨by first | exact NX.s3 M (by simp) | exact PX.s3 M (by decide) (by simp), True.intro⟩) ?_)
 refine ah_sole 15 #[true, true, true, true, true, true, true, true, true, true, true, true, true, true, true, true, false] rfl (by decide) (by kernel_rfl) ?_
 try simp only [List.getElem_toArray, List.getElem_cons_zero, List.getElem_cons_succ]
 go_wp2_with (at_builtin; refine nx_app 0 (aN : Int) j gl (.tmp 43) (.tmp 45) M (by decide) rfl rfl rfl rfl (Nat.le_trans (HB.out 0 (aN : Int)) (by decide)) ?_; clear M; intro v' W M; simp only [Act.put, kA, kZ, kS])
 (first | refine backA_intro2 (⟨by first | exact NX.s3 M (by simp) | exact PX.s3 M (by decide) (by simp), True.intro⟩) ?_ | refine backA_intro (⟨by first | exact NX.s3 M (by simp) | exact PX.s3 M (by decide) (by simp), True.intro⟩) ?_)
 refine ah_tail (by kernel_rfl) ?_
 try simp only [List.drop]
 refine nx_upd 0 (aN : Int) v' _ 159 (.tmp 34) (.tmp 36) (.tmp 46) M (by decide) rfl Try.underlying159 rfl rfl rfl rfl HWA.out HM2.out ?_
 clear M
 intro W F2 M
 simp only [Act.put]
 have c5 := (M.own.get 0 rfl).cell
 refine np_intro ?_
 generalize updN f1 0 (updI (f1 0) (aN : Int) (some v')) = f2 at M
 obtain ⟨A0, q0, e0, _⟩ := (M.at_.rows 0 (by decide) (aN : Int)).shape
 obtain ⟨A1, q1, e1, hx1⟩ := (M.at_.rows 1 (by decide) (aN : Int)).shape
 obtain ⟨ad1, rfl, _⟩ := hx1 q HQQ.out
 have HE0 := Lib.hid (show rowV f2 0 (aN : Int) = .slice A0 s1 q0 by rw [e0, HS1.out.1]; simp [updN, updI, ownK])
 have HE1 := Lib.hid (show rowV f2 1 (aN : Int) = .slice (some ad1) nt q1 by rw [e1, HS1.out.2]; rfl)
 clear e0 e1 hx1
 go_wp2
 clear c5
 have c5 := Later.cell (M.own.get 0 rfl)
 have cm : ∀ q : Later _, q.1.cell? ⟨p, 3, none⟩ = some (.map (some (mb 0))) := fun q => (M.kept q.2).at_.blk.cell 3
 have cr : ∀ q : Later _, q.1.cell? ⟨p, 0, none⟩ = some (.slice (some rad) nr d) := fun q => (M.kept q.2).at_.blk.cell 0
 have lk0 : ∀ q : Later _, (Instr.lookup 159 (.map (some (mb 0))) (.int .i64 (aN : Int)) false).run Try.prog q.1 = .ok (.slice A0 s1 q0) q.1 := fun q => by
   have := look_eqV ((M.kept q.2).at_.maps 0 (by decide)) 159 25 (.slice none 0 0) Try.underlying159 (zero25 _) ((aN : Int)) HWA.out
   rw [show (f2 0 (aN : Int)).getD (.slice none 0 0) = .slice A0 s1 q0 from HE0.out] at this; exact this
 have ck : ∀ q : Later _, q.1.cell? (rad.add aN) = some (.int .i64 rma) := fun q => HRC.out _ (M.kept q.2).own.keep
 refine wp_quiet_later (by kernel_rfl) (by kernel_rfl) ?_
 repeat (first | go_big_quiet_skip | go_big_quiet_step (fail))
 refine kq fun p' => ?_
 replace M := M.kept p'.2
 clear c5 cm cr lk0 ck
 generalize p'.1 = W3 at M ⊢
 have c5 := (M.own.get 0 rfl).cell
 go_wp2
 clear c5
 have c5 := Later.cell (M.own.get 0 rfl)
 have cm : ∀ q : Later _, q.1.cell? ⟨p, 4, none⟩ = some (.map (some (mb 1))) := fun q => (M.kept q.2).at_.blk.cell 4
 have lk1 : ∀ q : Later _, (Instr.lookup 159 (.map (some (mb 1))) (.int .i64 (aN : Int)) false).run Try.prog q.1 = .ok (.slice (some ad1) nt q1) q.1 := fun q => by
   have := look_eqV ((M.kept q.2).at_.maps 1 (by decide)) 159 25 (.slice none 0 0) Try.underlying159 (zero25 _) ((aN : Int)) HWA.out
   rw [show (f2 1 (aN : Int)).getD (.slice none 0 0) = .slice (some ad1) nt q1 from HE1.out] at this; exact this
 refine wp_quiet_later (by kernel_rfl) (by kernel_rfl) ?_
 repeat (first | go_big_quiet_skip | go_big_quiet_step (fail))
 refine kq fun p' => ?_
 replace M := M.kept p'.2
 clear c5 cm lk1
 generalize p'.1 = W3 at M ⊢
 have HX := Lib.hid (show ∀ u L r fr F2 m, NX w u F F2 (.slice (some rad) nr d) p mb f2 (pushK (ownK k who j) 0 (aN : Int) j) m base L r fr → u.cell? (ad1.add q) = some (.int .i64 y) from fun u L r fr F2 m M => by
   have h := M.at_.rows 1 (by decide) (aN : Int)
   rw [HE1.out] at h
   have h2 := h.cellOf (q := q) (show q < (k.rows 1 (aN : Int)).length from HQQ.out)
   rw [h2, HY.out]
   rfl)
 have c5 := (M.own.get 0 rfl).cell
 go_wp2
 clear c5
 refine wp_headH (S := fun u => S3 u p (.slice (some rad) nr d) mb f2 (m + 1 + 1) b5 (#[Value.int .i64 who, .int .i64 5, .int .i64 (aN : Int), .int .i64 v, .bool sh]) ∧ u.cell? (ad1.add q) = some (.int .i64 y)) 14 (by kernel_rfl) (by kernel_rfl) ?_
 replace M := M.kept (Keeps.refl _ _).drew
 refine ah_take (f := 2) (L' := #[true, true, true, true, true, true, true, true, true, true, true, true, false, false, false]) (⟨by first | exact NX.s3 M (by simp) | exact PX.s3 M (by decide) (by simp), by first | exact HX.out _ _ _ _ _ _ M⟩) [0, 1, 2, 3, 4, 5, 6, 7, 8, 9, 10, 11] [_, _, _, _, _, _, _, _, _, _, _, _] _ _ rfl (by decide) (by kernel_rfl) ?_
 simp only [List.getElem_toArray, List.getElem_cons_zero, List.getElem_cons_succ]
 repeat (first
   | (refine take_pure (v := ?_) (by rfl) ?_ ?_; rotate_left; (· (intro w hSw; have c5 := (S3.ev (And.left hSw)).cell; have cm1 : w.cell? ⟨p, 4, none⟩ = some (.map (some (mb 1))) := (S3.blk (And.left hSw)).cell 4; have lk1 : (Instr.lookup 159 (.map (some (mb 1))) (.int .i64 (aN : Int)) false).run Try.prog w = .ok (.slice (some ad1) nt q1) w := (by have := look_eqV ((S3.maps (And.left hSw)) 1 (by decide)) 159 25 (.slice none 0 0) Try.underlying159 (zero25 _) ((aN : Int)) HWA.out; rw [show (f2 1 (aN : Int)).getD (.slice none 0 0) = .slice (some ad1) nt q1 from HE1.out] at this; exact this); have ck := And.right hSw; clear hSw; go_simp; try with_reducible rfl)); simp only [Act.put, kA, kZ, kS]))
 refine takeA_done ?_
 refine ah_sole 12 #[true, true, true, true, true, true, true, true, true, true, true, true, true, false, false] rfl (by decide) (by kernel_rfl) ?_
 try simp only [List.getElem_toArray, List.getElem_cons_zero, List.getElem_cons_succ]
 refine nx_lit 90 y M rfl rfl rfl rfl ?_; clear M; intro W gl M; simp only [Act.put, kA, kZ, kS]
 (first | refine backA_intro2 (⟨by first | exact NX.s3 M (by simp) | exact PX.s3 M (by decide) (by simp), by first | exact HX.out _ _ _ _ _ _ M⟩) ?_ | refine backA_intro (⟨by first | exact NX.s3 M (by simp) | exact PX.s3 M (by decide) (by simp), by first | exact HX.out _ _ _ _ _ _ M⟩) ?_)
 refine ah_sole 13 #[true, true, true, true, true, true, true, true, true, true, true, true, true, true, false] rfl (by decide) (by kernel_rfl) ?_
 try simp only [List.getElem_toArray, List.getElem_cons_zero, List.getElem_cons_succ]
 go_wp2_with (at_builtin; refine nx_from1 y gl (.tmp 78) (.tmp 90) M rfl rfl rfl rfl HR.out (by have := HFR.out; omega) ?_; clear M HR; intro v' W M hR; simp only [Act.put, kA, kZ, kS])
 (first | refine backA_intro2 (⟨by first | exact NX.s3 M (by simp) | exact PX.s3 M (by decide) (by simp), by first | exact HX.out _ _ _ _ _ _ M⟩) ?_ | refine backA_intro (⟨by first | exact NX.s3 M (by simp) | exact PX.s3 M (by decide) (by simp), by first | exact HX.out _ _ _ _ _ _ M⟩) ?_)
 refine ah_tail (by kernel_rfl) ?_
 try simp only [List.drop]
 go_wp2_with (first | go_big_skip)
 refine np_intro ?_
 have HLEN := Lib.hid (show (ownL k who ++ [y]).length ≤ 1000000 by have := HFR.out; rw [List.length_append]; simp; omega)
 go_wp2_with (first
   | (go_at_call 95; refine (sort_mint M.row.hrow HLEN.out).mono ?_; rintro e W4 ⟨rfl, hR1, K1⟩; have HR1 := Lib.hid hR1; have HK1 := Lib.hid K1; clear hR1 K1)
   | (go_at_call 96; refine (compact_row HR1.out (by rw [sc_length]; exact HLEN.out)).mono ?_; rintro e W5 ⟨v2, rfl, e2, hR2, K2⟩; obtain ⟨q1, q2, q3, q4⟩ := M.done HK1.out K2 e2; have HQ := Lib.hid (And.intro hR2 (And.intro q1 (And.intro q2 (And.intro q3 q4)))); clear e2 hR2 K2 q1 q2 q3 q4 M)
   | go_big_skip)
 go_ret
 obtain ⟨q0, q1, q2, q3, q4⟩ := HQ.out
 rw [← HN1.out] at q0
 exact ⟨v2, _, _, rfl, q0, (by rw [HN2.out]; exact q1), q2, q3, q4⟩
theorem lnext_any (e : Ev) (hl : LinksAt w F rooms p mb f k m base) (hwf : (Lit.int .i64 e.who).wf = true) (hwa : (Lit.int .i64 e.a).wf = true) (hwv : e.op = 14 → (Lit.int .i64 e.v).wf = true) (hm : m ≤ 100000) (hb : ∀ i a, (k.rows i a).length ≤ 100000)
   (h5 : e.op = 5 → ∃ (rad : Addr) (nr d : Nat) (aN : Nat), rooms = .slice (some rad) nr d ∧ e.a = (aN : Int) ∧ rad.block < base ∧ w.cell? (rad.add aN) = some (.int .i64 (rm aN)) ∧ aN < nr ∧ -1000 ≤ rm aN ∧ rm aN ≤ 1000000)
   (h6 : e.op = 6 → e.sh = false → (k.rows 1 e.a).length < (k.rows 0 e.a).length) :
   Calls Try.prog 70 #[.pointer (some ⟨p, 0, none⟩), .int .i64 j, .agg (evC e)] w (LNextPost w F rooms p mb k m base j e rm) := by
 obtain ⟨who, op, a, v, sh⟩ := e
 simp only at hwf hwa hwv h5 h6
 by_cases o5 : op = 5
 · subst o5
   obtain ⟨rad, nr, d, aN, hrm, rfl, hrb, hrc, haN, hr1, hr2⟩ := h5 rfl
   by_cases c1 : ((k.rows 0 (aN : Int)).length + 1 : Nat) - rm aN < 1
   · exact lnext_5a hl hwf hwa hm hb hrm hrb hrc haN ⟨hr1, hr2⟩ c1
   · by_cases c2 : ((k.rows 1 (aN : Int)).length : Int) < ((k.rows 0 (aN : Int)).length + 1 : Nat) - rm aN
     · exact lnext_5b hl hwf hwa hm hb hrm hrb hrc haN ⟨hr1, hr2⟩ (by omega) c2
     · exact lnext_5c hl hwf hwa hm hb hrm hrb hrc haN ⟨hr1, hr2⟩ (by omega) (by omega)
 · by_cases o6 : op = 6
   · subst o6
     cases sh with
     | true => exact lnext_6s hl hwf hwa hm hb rfl
     | false => exact lnext_6t hl hwf hwa hm hb (h6 rfl rfl)
   · by_cases o7 : op = 7
     · subst o7
       cases h : k.ones 6 a with
       | some i => exact lnext_7a hl hwf hwa hm hb h
       | none => exact lnext_7b hl hwf hwa hm hb h
     · by_cases o8 : op = 8
       · subst o8; exact lnext_8 hl hwf hwa hm hb
       · by_cases o9 : op = 9
         · subst o9; exact lnext_9 hl hwf hwa hm hb
         · by_cases o10 : op = 10
           · subst o10; exact lnext_10 hl hwf hwa hm hb
           · by_cases o11 : op = 11
             · subst o11; exact lnext_11 hl hwf hwa hm hb
             · by_cases o14 : op = 14
               · subst o14
                 by_cases hv : 0 < v
                 · exact lnext_14b hl hwf hwa (hwv rfl) hm hb hv
                 · exact lnext_14a hl hwf hwa (hwv rfl) hm hb hv
               · exact lnext_o hl hwf hwa hm hb o5 o6 o7 o8 o9 o10 o11 o14
end
open Go.RowKit Go.Maps Go.Deep
theorem wf_small {n : Int} (h0 : -1000000 ≤ n) (h1 : n ≤ 1000000) : (Lit.int .i64 n).wf = true := by
 have e1 : IntKind.i64.min = -9223372036854775808 := by decide
 have e2 : IntKind.i64.max = 9223372036854775807 := by decide
 simp only [Lit.wf, e1, e2, Bool.and_eq_true, decide_eq_true_eq]
 omega
theorem ok_head {S : Sys} {st : St} {e : Ev} (h : okE S st e = true) : 0 ≤ e.who ∧ e.who < st.r ∧ 1 ≤ e.op ∧ e.op ≤ 16 ∧ (cnt S e.op < 0 ∨ (0 ≤ e.a ∧ e.a < cnt S e.op)) := by
 unfold okE headE at h
 simp only [Bool.and_eq_true, decide_eq_true_eq, Bool.or_eq_true] at h
 exact ⟨h.1.1, h.1.2.1, h.1.2.2.1, h.1.2.2.2.1, h.1.2.2.2.2⟩
theorem ok_start {S : Sys} {st : St} {e : Ev} (h : okE S st e = true) (h14 : e.op = 14) : e.v = 0 ∨ (e.v = st.r ∧ e.v < 512) := by
 unfold okE bodyE at h
 rw [if_pos h14] at h
 simp only [Bool.and_eq_true, decide_eq_true_eq, Bool.or_eq_true] at h
 exact h.2
section
variable {w W : World} {S : Sys} {A : Option Addr} {c : Nat} {R : Option Addr} {d : Nat} {E : Nat → Ev} {F : List Nat} {p : Nat} {mb : Nat → Nat} {f : Nat → Int → Option Value} {base j : Nat} {k : Lk} {m : Nat}
def LNextE (W : World) (F : List Nat) (rooms : Value) (p : Nat) (mb : Nat → Nat) (k : Lk) (m base : Nat) (rm : Int → Int) (j : Nat) (e : Ev) (x : Ending) (u : World) : Prop :=
 ∃ r F' f', x = .returned r ∧ HRow W.heap.size u r (scL (nextR k rm e)) ∧ LinksAt u F' rooms p mb f' (nextK k j e) (m + 2) base ∧ (∀ b ∈ F', b ∈ F ∨ W.heap.size ≤ b) ∧ (∀ g, r.ownBlock = some g → g ∉ F') ∧ Keeps W u F
theorem lnextE (hS : SysIn w S A c R d) (KW : Keeps w W []) (hrm : ∀ q, q < S.nr → 1 ≤ S.rm q ∧ S.rm q ≤ 1000000) (hj : j ≤ 40000) (hok : okE S (stN E j) (E j) = true) (hwa : (Lit.int .i64 (E j).a).wf = true) (hl : LinksAt W F (.slice R S.nr d) p mb f k m base) (hm : m ≤ 100000) (hkl : ∀ i a, (k.rows i a).length ≤ 100000)
   (h6 : (E j).op = 6 → (E j).sh = false → (k.rows 1 (E j).a).length < (k.rows 0 (E j).a).length) (hb : w.heap.size ≤ base) :
   Calls Try.prog 70 #[.pointer (some ⟨p, 0, none⟩), .int .i64 (j : Int), .agg (evC (E j))] W (LNextE W F (.slice R S.nr d) p mb k m base (rmS S) j (E j)) := by
 obtain ⟨h1, h2, h3, h4, h5⟩ := ok_head hok
 have hr := (stN_le E j).2.1
 have hv14 : (E j).op = 14 → (Lit.int .i64 (E j).v).wf = true := fun h14 => by
   rcases ok_start hok h14 with h | h
   · rw [h]; decide
   · exact wf_small (by omega) (by omega)
 refine (lnext_any (rm := rmS S) (E j) hl (wf_small (by omega) (by omega)) hwa hv14 hm hkl (fun h5' => ?_) h6).mono fun x u h => h
 have hc : cnt S (E j).op = S.nr := by rw [h5']; simp [cnt]
 have ha : 0 ≤ (E j).a ∧ (E j).a < S.nr := by
   rcases h5 with h | h
   · rw [hc] at h; omega
   · rw [hc] at h; exact h
 obtain ⟨rad, e, hrb, hrc⟩ := hS.rooms (by omega)
 have hlt : (E j).a.toNat < S.nr := by omega
 have h7 := hrm (E j).a.toNat hlt
 have e1 : rmS S (((E j).a.toNat : Nat) : Int) = S.rm (E j).a.toNat := by unfold rmS; rw [Int.toNat_natCast]
 refine ⟨rad, S.nr, d, (E j).a.toNat, by rw [e], by omega, by omega, ?_, hlt, by rw [e1]; omega, by rw [e1]; omega⟩
 rw [e1, KW.cellAt (by rw [add_block]; exact hrb) (by simp)]
 exact hrc _ hlt
end
open Go.RowKit Go.Maps Go.Deep
def rowsA (r : Nat) (nb : Nat → Nat) : Array Value := (Array.range r).map fun i => .slice (some ⟨nb i, 0, none⟩) r r
theorem rowsA_get (r : Nat) (nb : Nat → Nat) (i : Nat) (h : i < r) : (rowsA r nb)[i]? = some (.slice (some ⟨nb i, 0, none⟩) r r) := by simp [rowsA, h]
def ClkAt (W : World) (g r : Nat) (c : Int → Int) : Prop := ∃ cur, Blk W g 3 cur ∧ CurI cur r c
structure TkAt (W : World) (base r gN : Nat) (nb mt : Nat → Nat) (f : Nat → Int → Option Value) (X : List Nat) (nc : Nat → Int → Int) (kc : Nat → Int → List Int) (m : Nat) : Prop where
 now : Blk W gN 25 (rowsA r nb)
 rows : ∀ i, i < r → ClkAt W (nb i) r (nc i)
 maps : ∀ i, i < 3 → MapV W (mt i) m (f i)
 kept : ∀ i, i < 3 → ∀ a, HRow base W (rowV f i a) (kc i a)
 gX : gN ∈ X
 nX : ∀ i, i < r → nb i ∈ X
 mX : ∀ i, i < 3 → mt i ∈ X
 kX : ∀ i, i < 3 → ∀ a g, (rowV f i a).ownBlock = some g → g ∈ X
 ltX : ∀ b ∈ X, base ≤ b ∧ b < W.heap.size
 nbne : ∀ i j, i < r → j < r → i ≠ j → nb i ≠ nb j
 mtne : ∀ i j, i < 3 → j < 3 → i ≠ j → mt i ≠ mt j
 nbk : ∀ i, i < 3 → ∀ a g, (rowV f i a).ownBlock = some g → ∀ j, j < r → nb j ≠ g
section
variable {w W u : World} {base r gN : Nat} {nb mt : Nat → Nat} {f : Nat → Int → Option Value} {X S : List Nat} {nc : Nat → Int → Int} {kc : Nat → Int → List Int} {m m' g : Nat} {c : Int → Int}
theorem ClkAt.lt (h : ClkAt W g r c) : g < W.heap.size := by obtain ⟨cur, hb, _⟩ := h; exact hb.lt
theorem ClkAt.keeps (h : ClkAt W g r c) (k : Keeps W u S) (hs : g ∉ S) : ClkAt u g r c := by obtain ⟨cur, hb, hc⟩ := h; exact ⟨cur, hb.keeps k hs, hc⟩
theorem ClkAt.same {c' : Int → Int} (h : ClkAt W g r c) (e : ∀ j : Nat, j < r → c j = c' j) : ClkAt W g r c' := by obtain ⟨cur, hb, hc⟩ := h; exact ⟨cur, hb, hc.same e⟩
theorem ClkAt.ints (h : ClkAt W g r c) (cap : Nat) : IntL W (.slice (some ⟨g, 0, none⟩) r cap) (rowOf r c) := by
 obtain ⟨cur, hb, hc⟩ := h
 refine ⟨_, cap, by rw [rowOf_length], fun _ => ⟨_, rfl, hb.lt, fun j hj => ?_⟩⟩
 rw [rowOf_length] at hj
 have e : (⟨g, 0, none⟩ : Addr).add j = ⟨g, j, none⟩ := by
   by_cases h : j = 0
   · subst h; rfl
   · simp [Addr.add, h]
 rw [e, hb.cell, hc.2 j hj, rowOf_get _ _ _ hj]
theorem TkAt.keptS (h : TkAt W base r gN nb mt f X nc kc m) (K : Keeps W u S) (hS : ∀ b ∈ S, b ∉ X) : TkAt u base r gN nb mt f X nc kc m :=
 ⟨h.now.keeps K fun hm => hS _ hm h.gX, fun i hi => (h.rows i hi).keeps K fun hm => hS _ hm (h.nX i hi), fun i hi => (h.maps i hi).keeps K fun hm => hS _ hm (h.mX i hi), fun i hi a => (h.kept i hi a).keeps K fun g hg hm => hS g hm (h.kX i hi a g hg),
   h.gX, h.nX, h.mX, h.kX, fun b hb => ⟨(h.ltX b hb).1, Nat.lt_of_lt_of_le (h.ltX b hb).2 K.size⟩, h.nbne, h.mtne, h.nbk⟩
theorem TkAt.mono (h : TkAt W base r gN nb mt f X nc kc m) (hm : m ≤ m') : TkAt W base r gN nb mt f X nc kc m' := { h with maps := fun i hi => (h.maps i hi).mono hm }
theorem TkAt.nowsame {nc' : Nat → Int → Int} (h : TkAt W base r gN nb mt f X nc kc m) (e : ∀ i, i < r → ∀ j : Nat, j < r → nc i j = nc' i j) : TkAt W base r gN nb mt f X nc' kc m := { h with rows := fun i hi => (h.rows i hi).same (e i hi) }
theorem TkAt.setNow (h : TkAt W base r gN nb mt f X nc kc m) {i : Nat} (hi : i < r) (K : Keeps W u [nb i]) (B : ClkAt u (nb i) r c) : TkAt u base r gN nb mt f X (updN nc i c) kc m := by
 obtain ⟨cur0, hb0, _⟩ := h.rows i hi
 refine ⟨h.now.keeps K fun hm => ?_, fun j hj => ?_, fun j hj => (h.maps j hj).keeps K fun hm => ?_, fun j hj a => (h.kept j hj a).keeps K fun g hg hm => ?_, h.gX, h.nX, h.mX, h.kX, fun b hb => ⟨(h.ltX b hb).1, Nat.lt_of_lt_of_le (h.ltX b hb).2 K.size⟩, h.nbne, h.mtne, h.nbk⟩
 · have e : gN = nb i := by simpa using hm
   have h1 := h.now
   rw [e, Blk, hb0] at h1
   injection h1 with h1
   injection h1 with _ h1 _
   exact absurd h1 (by decide)
 · by_cases e : j = i
   · subst e; unfold updN; rw [if_pos rfl]; exact B
   · unfold updN; rw [if_neg e]
     exact (h.rows j hj).keeps K (by simpa using h.nbne j i hj hi e)
 · have e : mt j = nb i := by simpa using hm
   exact (h.maps j hj).not_blk hb0 e.symm
 · have e : g = nb i := by simpa using hm
   exact h.nbk j hj a g hg i hi e.symm
theorem TkAt.setMap (h : TkAt W base r gN nb mt f X nc kc m) {i : Nat} (hi : i < 3) {a : Int} {v' : Value} {xs' : List Int} (hv : HRow base W v' xs') (hfr : ∀ g, v'.ownBlock = some g → g ∉ X) (K : Keeps W u [mt i]) (M : MapV u (mt i) (m + 1) (updI (f i) a (some v'))) :
   TkAt u base r gN nb mt (updN f i (updI (f i) a (some v'))) (v'.ownBlock.toList ++ X) nc (updN kc i (updI (kc i) a xs')) (m + 1) := by
 have same : ∀ a', a' = a → rowV (updN f i (updI (f i) a (some v'))) i a' = v' := fun a' e => by
   subst e; simp [rowV, updN, updI]
 have oth : ∀ j a', (j ≠ i ∨ a' ≠ a) → rowV (updN f i (updI (f i) a (some v'))) j a' = rowV f j a' := fun j a' hne => by
   unfold rowV updN
   by_cases e : j = i
   · subst e
     rw [if_pos rfl, updI_other _ _ _ _ (by rcases hne with h | h; exact absurd rfl h; exact h)]
   · rw [if_neg e]
 have dec : ∀ j a', (j = i ∧ a' = a) ∨ (j ≠ i ∨ a' ≠ a) := fun j a' => by
   by_cases e1 : j = i
   · by_cases e2 : a' = a
     · exact .inl ⟨e1, e2⟩
     · exact .inr (.inr e2)
   · exact .inr (.inl e1)
 have nm : ∀ {g : Nat} {t : Nat} {cs : Array Value}, Blk W g t cs → g ∉ [mt i] := fun hb hm => (h.maps i hi).not_blk hb (by simpa using hm)
 have knm : ∀ {v : Value} {xs : List Int}, HRow base W v xs → ∀ g, v.ownBlock = some g → g ∉ [mt i] := fun hr g hg => by
   obtain ⟨_, cur, hb⟩ := hr.own hg
   exact nm hb
 have hfb : ∀ g, v'.ownBlock = some g → base ≤ g ∧ g < W.heap.size := fun g hg => by
   obtain ⟨h1, cur, hb⟩ := hv.own hg
   exact ⟨h1, hb.lt⟩
 refine ⟨h.now.keeps K (nm h.now), fun j hj => (h.rows j hj).keeps K (by obtain ⟨cur, hb, _⟩ := h.rows j hj; exact nm hb), fun j hj => ?_, fun j hj a' => ?_, by simp [h.gX], fun j hj => by simp [h.nX j hj], fun j hj => by simp [h.mX j hj], fun j hj a' g hg => ?_, fun b hb => ?_, h.nbne, h.mtne, fun j hj a' g hg q hq => ?_⟩
 · by_cases e : j = i
   · subst e; unfold updN; rw [if_pos rfl]; exact M
   · unfold updN; rw [if_neg e]
     exact ((h.maps j hj).keeps K (by simpa using h.mtne j i hj hi e)).mono (by omega)
 · rcases dec j a' with ⟨rfl, rfl⟩ | e
   · rw [same a' rfl]
     have h1 := hv.keeps K (knm hv)
     simpa [updN, updI] using h1
   · rw [oth j a' e]
     have e3 : (updN kc i (updI (kc i) a xs')) j a' = kc j a' := by
       unfold updN
       by_cases e1 : j = i
       · subst e1
         rw [if_pos rfl, updI_other _ _ _ _ (by rcases e with h | h; exact absurd rfl h; exact h)]
       · rw [if_neg e1]
     show HRow base u _ ((updN kc i (updI (kc i) a xs')) j a')
     rw [e3]
     exact (h.kept j hj a').keeps K (knm (h.kept j hj a'))
 · rcases dec j a' with ⟨rfl, rfl⟩ | e
   · rw [same a' rfl] at hg
     simp [hg]
   · rw [oth j a' e] at hg
     exact List.mem_append_right _ (h.kX j hj a' g hg)
 · rcases List.mem_append.1 hb with hm | hm
   · have := hfb b (by simpa using hm)
     exact ⟨this.1, Nat.lt_of_lt_of_le this.2 K.size⟩
   · exact ⟨(h.ltX b hm).1, Nat.lt_of_lt_of_le (h.ltX b hm).2 K.size⟩
 · rcases dec j a' with ⟨rfl, rfl⟩ | e
   · rw [same a' rfl] at hg
     exact fun e => hfr g hg (by rw [← e]; exact h.nX q hq)
   · rw [oth j a' e] at hg
     exact h.nbk j hj a' g hg q hq
end
section
variable {ops : Array Oper} {rest : List Oper} {o : Oper} {a : Act} {w W : World} {Q : Exit → Act → World → Prop} {base r gN : Nat} {nb mt : Nat → Nat} {f : Nat → Int → Option Value} {X S : List Nat} {nc : Nat → Int → Int} {kc : Nat → Int → List Int} {m : Nat} {L : List Ent} {x0 : Operand}
theorem tk_upd (i : Nat) (key : Int) (v' : Value) (xs' : List Int) (T : Nat) (x y z : Operand) (M : TkAt W base r gN nb mt f X nc kc m) (hi : i < 3) (hv : HRow base W v' xs') (hfr : ∀ g, v'.ownBlock = some g → g ∉ X) (hgd : o.guard = none) (hT : Try.prog.underlying T = some (.map 3 25)) (ho : o.op = .mapUpdate T x y z)
   (hx : a.eval x = .map (some (mt i))) (hy : a.eval y = .int .i64 key) (hz : a.eval z = v') (hk : (Lit.int .i64 key).wf = true) (hm : m < maxLen)
   (h : ∀ u, TkAt u base r gN nb mt (updN f i (updI (f i) key (some v'))) (v'.ownBlock.toList ++ X) nc (updN kc i (updI (kc i) key xs')) (m + 1) → Keeps W u [mt i] → wpList Try.prog ops Q rest (a.put o.dst undef) u) : wpList Try.prog ops Q (o :: rest) a W :=
 map_storeV (M.maps i hi) T 25 hT hgd ho hx hy hk hz hm fun u K M2 => h u (M.setMap hi hv hfr K M2) K
theorem own_litS (d : Nat) (v : Value) (O : Own w W S L) (_hd : o.dst = some d) (hgd : o.guard = none) (ho : o.op = .buildSlice 68 1 #[(0, x0)]) (h0 : a.eval x0 = v) (hv : v.cells = #[v])
   (h : ∀ u g, Own w u S ((g, 25, #[v]) :: L) → Keeps W u [] → W.heap.size ≤ g → wpList Try.prog ops Q rest (a.put o.dst (.slice (some ⟨g, 0, none⟩) 1 1)) u) : wpList Try.prog ops Q (o :: rest) a W := by
 have hi : (Try.prog.info? 25).map (fun i => (i.zero, i.size)) = some (some (.slice none 0 0), 1) := by kernel_rfl
 obtain ⟨i, hi2, he⟩ := Option.map_eq_some_iff.1 hi
 simp only [Prod.mk.injEq] at he
 obtain ⟨hz, hs⟩ := he
 have k := (Keeps.refl W []).alloc (.cells #[v] 25)
 refine wpList_buildSlice hgd 68 25 1 _ ho #[v] i (.slice none 0 0) Try.underlying68 hi2 hz (by rw [hs]; decide) (by rw [hs]; decide) ?_ (h _ _ (O.add k (Blk.new _ _ _)) k (Nat.le_refl _))
 rw [hs]
 have e1 : ((#[(0, x0)] : Array (Nat × Operand)).map (fun (i, x) => (i, a.eval x))).toList = [(0, v)] := by simp [h0]
 rw [e1]
 have rr : Array.range 1 = #[0] := by decide
 have hn : (Value.slice none 0 0).cells = #[Value.slice none 0 0] := rfl
 simp [Instr.fill, rr, hv, hn]
end
section
variable {w : World} {gi r cap : Nat} {c : Int → Int} {cur : Array Value}
def ClonePost (w : World) (r : Nat) (c : Int → Int) (e : Ending) (u : World) : Prop := (∃ g cp cu, e = .returned (.slice (some ⟨g, 0, none⟩) r cp) ∧ w.heap.size ≤ g ∧ Blk u g 3 cu ∧ r ≤ cp ∧ cp ≤ maxLen ∧ cu.size = cp ∧ CurI cu r c) ∧ Keeps w u []
theorem clone_cur (hB : ClkAt w gi r c) (hr : r ≤ 1000000) : Calls Try.prog 74 #[.slice (some ⟨gi, 0, none⟩) r cap] w (ClonePost w r c) := by
 obtain ⟨cur, hb, hc⟩ := hB
 refine (Try.slices_Clone_int gi 0 r cap (rowOf r c) w (by rw [rowOf_length]; exact Nat.le_refl _) (by omega) (fun j hj => ?_)).mono ?_
 · rw [rowOf_length] at hj
   rw [Nat.zero_add, hb.cell, hc.2 j hj, rowOf_get _ _ _ hj]
 · rintro e u ⟨v', rfl, ⟨hl, ho⟩, hne, hbw⟩
   rcases ho with ⟨rfl, _⟩ | ⟨g, cp, cu, rfl, hbg, hB, hle, hm, hs, ht⟩
   · exact absurd rfl hne
   · refine ⟨⟨g, cp, cu, rfl, hbg, hB, hle, hm, by simpa using hs, by omega, fun j hj => ?_⟩, Keeps.of_below hbw⟩
     have h1 : (cu.toList.take (r * 1))[j]? = (((rowOf r c).take r).map (Value.int .i64))[j]? := by rw [ht]
     rw [List.getElem?_take, if_pos (by omega), Array.getElem?_toList] at h1
     rw [h1, List.getElem?_map, List.getElem?_take, if_pos hj]
     have e := rowOf_get r c j hj
     rw [List.getD_eq_getElem?_getD, List.getElem?_eq_getElem (by rw [rowOf_length]; exact hj)] at e
     rw [List.getElem?_eq_getElem (by rw [rowOf_length]; exact hj)]
     simp only [Option.getD_some] at e
     simp [e]
theorem cur_row {W : World} {base g cp : Nat} {cu : Array Value} (hb : base ≤ g) (hB : Blk W g 3 cu) (hle : r ≤ cp) (hm : cp ≤ maxLen) (hs : cu.size = cp) (hc : CurI cu r c) : HRow base W (.slice (some ⟨g, 0, none⟩) r cp) (rowOf r c) :=
 .inr ⟨g, 0, cp, cu, by rw [rowOf_length], hb, hB, by rw [rowOf_length]; exact hle, hm, by omega, fun j hj => by
   rw [rowOf_length] at hj
   rw [Nat.zero_add, hc.2 j hj, rowOf_get _ _ _ hj]⟩
end
open Go.RowKit Go.Maps Go.Deep
def noteN (r : Nat) (nc : Nat → Int → Int) (ck : Int → Int) (e : Ev) : Nat → Int → Int := if e.op = 14 ∧ 0 < e.v then updN nc e.v.toNat (jmax (nc e.v.toNat) (rowOf r ck) r) else nc
def joinR (r : Nat) (ck : Int → Int) (xs : List Int) : List Int := rowOf r (jmax ck xs xs.length)
def noteK (r : Nat) (kc : Nat → Int → List Int) (ck : Int → Int) (j : Int) (e : Ev) : Nat → Int → List Int :=
 if e.op = 5 ∨ e.op = 6 ∨ e.op = 7 then updN kc 0 (updI (kc 0) j (rowOf r ck))
 else if e.op = 10 then updN kc 1 (updI (kc 1) e.a (joinR r ck (kc 1 e.a)))
 else if e.op = 9 then updN kc 2 (updI (kc 2) e.a (joinR r ck (kc 2 e.a)))
 else if e.op = 8 then updN kc 2 (updI (kc 2) e.a [])
 else kc
theorem blk_ne {W : World} {g g' t t' : Nat} {cs cs' : Array Value} (h : Blk W g t cs) (h' : Blk W g' t' cs') (ht : t ≠ t') : g ≠ g' := fun e => by
 subst e
 rw [Blk, h'] at h
 injection h with h
 injection h with _ h _
 exact ht h.symm
section
variable {w : World} {base r gN : Nat} {nb mt : Nat → Nat} {f : Nat → Int → Option Value} {X : List Nat} {nc : Nat → Int → Int} {kc : Nat → Int → List Int} {m i0 : Nat} {ck : Int → Int} {who op a v : Int} {sh : Bool} {j vN : Nat}
def NotePost (w : World) (base r gN : Nat) (nb mt : Nat → Nat) (X : List Nat) (nc : Nat → Int → Int) (kc : Nat → Int → List Int) (m : Nat) (x : Ending) (u : World) : Prop :=
 x = .returned (.tuple #[]) ∧ (∃ f X', TkAt u base r gN nb mt f X' nc kc (m + 1) ∧ ∀ b ∈ X', b ∈ X ∨ w.heap.size ≤ b) ∧ Keeps w u X
set_option maxRecDepth 100000 in
set_option maxHeartbeats 1000000 in
theorem note_5 (T : TkAt w base r gN nb mt f X nc kc m) (hi0 : i0 < r) (hck : nc i0 = ck) (hr : r ≤ 1000000) (hm : m ≤ 200000) (hkl : ∀ i a, i < 3 → (kc i a).length ≤ r) (hwa : (Lit.int .i64 a).wf = true) (hj : j ≤ 40000)  :
   Calls Try.prog 100 #[.agg (evC ⟨who, 5, a, v, sh⟩), .slice (some ⟨nb i0, 0, none⟩) r r, .slice (some ⟨gN, 0, none⟩) r r, .map (some (mt 0)), .map (some (mt 1)), .map (some (mt 2)), .int .i64 (j : Int)] w (NotePost w base r gN nb mt X (noteN r nc ck ⟨who, 5, a, v, sh⟩) (noteK r kc ck j ⟨who, 5, a, v, sh⟩) m) := by
 have O := Own.start w X
 have HCK := Lib.hid hck
 have HKL := Lib.hid hkl
 have HWA := Lib.hid hwa
 have HM := Lib.hid (show m < maxLen by simp only [maxLen]; omega)
 have HWJ := Lib.hid (wf_small (n := (j : Int)) (by omega) (by omega))
 have HLX := Lib.hid (fun b (hb : b ∈ X) => (T.ltX b hb).2)
 have HBW := Lib.hid (show base ≤ w.heap.size by have := T.ltX gN T.gX; omega)
 have HN := Lib.hid (show noteN r nc ck ⟨who, 5, a, v, sh⟩ = nc by simp [noteN])
 have HK := Lib.hid (show noteK r kc ck (j : Int) ⟨who, 5, a, v, sh⟩ = updN kc 0 (updI (kc 0) (j : Int) (rowOf r ck)) by simp [noteK])
 clear hck hkl hwa
 go_enter Try.func100, Try.ntmps100
 go_wp2_with (first
   | (refine own_boxK 7 (#[Value.int .i64 who, .int .i64 5, .int .i64 a, .int .i64 v, .bool sh]) O rfl rfl rfl rfl ?_; clear O; intro W b7 O K hb; replace T := T.keptS K (by simp); clear K hb; simp only [Act.put, kA, kZ, kS])
   | (go_at_call 74; refine (clone_cur (by have := T.rows i0 hi0; rwa [HCK.out] at this) hr).mono ?_; rintro e W2 ⟨⟨g, cp, cu, rfl, hg, hB, hle, hcm, hs, hcu⟩, K⟩; have HG := Lib.hid (And.intro (Nat.le_trans O.keep.size hg) (And.intro hB (And.intro hle (And.intro hcm (And.intro hs hcu))))); replace O := O.keeps K; replace T := T.keptS K (by simp); clear hg hB hle hcm hs hcu K; have c7 : ∀ i : Nat, W2.cell? ⟨b7, i, none⟩ = #[Value.int .i64 who, .int .i64 5, .int .i64 a, .int .i64 v, .bool sh][i]? := (O.get 0 rfl).cell; skip)
   | (refine tk_upd 0 (j : Int) (.slice (some ⟨g, 0, none⟩) r cp) (rowOf r ck) 159 (.tmp 36) (.tmp 37) (.tmp 38) T (by decide) (cur_row (Nat.le_trans HBW.out HG.out.1) HG.out.2.1 HG.out.2.2.1 HG.out.2.2.2.1 HG.out.2.2.2.2.1 HG.out.2.2.2.2.2) (fun q hq => by obtain rfl : g = q := (by simpa [Value.ownBlock] using hq); exact fun hm => by have := HLX.out _ hm; have := HG.out.1; omega) rfl Try.underlying159 rfl rfl rfl rfl HWJ.out HM.out ?_; have TM := T.mX 0 (by decide); clear T c7; intro u T K; simp only [Act.put, kA, kZ, kS]; have HKP := Lib.hid (O.keep.trans K (fun b hb _ => by rw [List.mem_singleton.1 hb]; exact TM)); clear K O TM))
 go_returns
 exact ⟨rfl, ⟨_, _, by rw [HN.out, HK.out]; exact T, fun b hb => by rcases List.mem_append.1 hb with h | h; (· exact .inr (by rw [show b = g by simpa [Value.ownBlock] using h]; exact HG.out.1)); (· exact .inl h)⟩, HKP.out⟩
set_option maxRecDepth 100000 in
set_option maxHeartbeats 1000000 in
theorem note_6 (T : TkAt w base r gN nb mt f X nc kc m) (hi0 : i0 < r) (hck : nc i0 = ck) (hr : r ≤ 1000000) (hm : m ≤ 200000) (hkl : ∀ i a, i < 3 → (kc i a).length ≤ r) (hwa : (Lit.int .i64 a).wf = true) (hj : j ≤ 40000)  :
   Calls Try.prog 100 #[.agg (evC ⟨who, 6, a, v, sh⟩), .slice (some ⟨nb i0, 0, none⟩) r r, .slice (some ⟨gN, 0, none⟩) r r, .map (some (mt 0)), .map (some (mt 1)), .map (some (mt 2)), .int .i64 (j : Int)] w (NotePost w base r gN nb mt X (noteN r nc ck ⟨who, 6, a, v, sh⟩) (noteK r kc ck j ⟨who, 6, a, v, sh⟩) m) := by
 have O := Own.start w X
 have HCK := Lib.hid hck
 have HKL := Lib.hid hkl
 have HWA := Lib.hid hwa
 have HM := Lib.hid (show m < maxLen by simp only [maxLen]; omega)
 have HWJ := Lib.hid (wf_small (n := (j : Int)) (by omega) (by omega))
 have HLX := Lib.hid (fun b (hb : b ∈ X) => (T.ltX b hb).2)
 have HBW := Lib.hid (show base ≤ w.heap.size by have := T.ltX gN T.gX; omega)
 have HN := Lib.hid (show noteN r nc ck ⟨who, 6, a, v, sh⟩ = nc by simp [noteN])
 have HK := Lib.hid (show noteK r kc ck (j : Int) ⟨who, 6, a, v, sh⟩ = updN kc 0 (updI (kc 0) (j : Int) (rowOf r ck)) by simp [noteK])
 clear hck hkl hwa
 go_enter Try.func100, Try.ntmps100
 go_wp2_with (first
   | (refine own_boxK 7 (#[Value.int .i64 who, .int .i64 6, .int .i64 a, .int .i64 v, .bool sh]) O rfl rfl rfl rfl ?_; clear O; intro W b7 O K hb; replace T := T.keptS K (by simp); clear K hb; simp only [Act.put, kA, kZ, kS])
   | (go_at_call 74; refine (clone_cur (by have := T.rows i0 hi0; rwa [HCK.out] at this) hr).mono ?_; rintro e W2 ⟨⟨g, cp, cu, rfl, hg, hB, hle, hcm, hs, hcu⟩, K⟩; have HG := Lib.hid (And.intro (Nat.le_trans O.keep.size hg) (And.intro hB (And.intro hle (And.intro hcm (And.intro hs hcu))))); replace O := O.keeps K; replace T := T.keptS K (by simp); clear hg hB hle hcm hs hcu K; have c7 : ∀ i : Nat, W2.cell? ⟨b7, i, none⟩ = #[Value.int .i64 who, .int .i64 6, .int .i64 a, .int .i64 v, .bool sh][i]? := (O.get 0 rfl).cell; skip)
   | (refine tk_upd 0 (j : Int) (.slice (some ⟨g, 0, none⟩) r cp) (rowOf r ck) 159 (.tmp 36) (.tmp 37) (.tmp 38) T (by decide) (cur_row (Nat.le_trans HBW.out HG.out.1) HG.out.2.1 HG.out.2.2.1 HG.out.2.2.2.1 HG.out.2.2.2.2.1 HG.out.2.2.2.2.2) (fun q hq => by obtain rfl : g = q := (by simpa [Value.ownBlock] using hq); exact fun hm => by have := HLX.out _ hm; have := HG.out.1; omega) rfl Try.underlying159 rfl rfl rfl rfl HWJ.out HM.out ?_; have TM := T.mX 0 (by decide); clear T c7; intro u T K; simp only [Act.put, kA, kZ, kS]; have HKP := Lib.hid (O.keep.trans K (fun b hb _ => by rw [List.mem_singleton.1 hb]; exact TM)); clear K O TM))
 go_returns
 exact ⟨rfl, ⟨_, _, by rw [HN.out, HK.out]; exact T, fun b hb => by rcases List.mem_append.1 hb with h | h; (· exact .inr (by rw [show b = g by simpa [Value.ownBlock] using h]; exact HG.out.1)); (· exact .inl h)⟩, HKP.out⟩
set_option maxRecDepth 100000 in
set_option maxHeartbeats 1000000 in
theorem note_7 (T : TkAt w base r gN nb mt f X nc kc m) (hi0 : i0 < r) (hck : nc i0 = ck) (hr : r ≤ 1000000) (hm : m ≤ 200000) (hkl : ∀ i a, i < 3 → (kc i a).length ≤ r) (hwa : (Lit.int .i64 a).wf = true) (hj : j ≤ 40000)  :
   Calls Try.prog 100 #[.agg (evC ⟨who, 7, a, v, sh⟩), .slice (some ⟨nb i0, 0, none⟩) r r, .slice (some ⟨gN, 0, none⟩) r r, .map (some (mt 0)), .map (some (mt 1)), .map (some (mt 2)), .int .i64 (j : Int)] w (NotePost w base r gN nb mt X (noteN r nc ck ⟨who, 7, a, v, sh⟩) (noteK r kc ck j ⟨who, 7, a, v, sh⟩) m) := by
 have O := Own.start w X
 have HCK := Lib.hid hck
 have HKL := Lib.hid hkl
 have HWA := Lib.hid hwa
 have HM := Lib.hid (show m < maxLen by simp only [maxLen]; omega)
 have HWJ := Lib.hid (wf_small (n := (j : Int)) (by omega) (by omega))
 have HLX := Lib.hid (fun b (hb : b ∈ X) => (T.ltX b hb).2)
 have HBW := Lib.hid (show base ≤ w.heap.size by have := T.ltX gN T.gX; omega)
 have HN := Lib.hid (show noteN r nc ck ⟨who, 7, a, v, sh⟩ = nc by simp [noteN])
 have HK := Lib.hid (show noteK r kc ck (j : Int) ⟨who, 7, a, v, sh⟩ = updN kc 0 (updI (kc 0) (j : Int) (rowOf r ck)) by simp [noteK])
 clear hck hkl hwa
 go_enter Try.func100, Try.ntmps100
 go_wp2_with (first
   | (refine own_boxK 7 (#[Value.int .i64 who, .int .i64 7, .int .i64 a, .int .i64 v, .bool sh]) O rfl rfl rfl rfl ?_; clear O; intro W b7 O K hb; replace T := T.keptS K (by simp); clear K hb; simp only [Act.put, kA, kZ, kS])
   | (go_at_call 74; refine (clone_cur (by have := T.rows i0 hi0; rwa [HCK.out] at this) hr).mono ?_; rintro e W2 ⟨⟨g, cp, cu, rfl, hg, hB, hle, hcm, hs, hcu⟩, K⟩; have HG := Lib.hid (And.intro (Nat.le_trans O.keep.size hg) (And.intro hB (And.intro hle (And.intro hcm (And.intro hs hcu))))); replace O := O.keeps K; replace T := T.keptS K (by simp); clear hg hB hle hcm hs hcu K; have c7 : ∀ i : Nat, W2.cell? ⟨b7, i, none⟩ = #[Value.int .i64 who, .int .i64 7, .int .i64 a, .int .i64 v, .bool sh][i]? := (O.get 0 rfl).cell; skip)
   | (refine tk_upd 0 (j : Int) (.slice (some ⟨g, 0, none⟩) r cp) (rowOf r ck) 159 (.tmp 36) (.tmp 37) (.tmp 38) T (by decide) (cur_row (Nat.le_trans HBW.out HG.out.1) HG.out.2.1 HG.out.2.2.1 HG.out.2.2.2.1 HG.out.2.2.2.2.1 HG.out.2.2.2.2.2) (fun q hq => by obtain rfl : g = q := (by simpa [Value.ownBlock] using hq); exact fun hm => by have := HLX.out _ hm; have := HG.out.1; omega) rfl Try.underlying159 rfl rfl rfl rfl HWJ.out HM.out ?_; have TM := T.mX 0 (by decide); clear T c7; intro u T K; simp only [Act.put, kA, kZ, kS]; have HKP := Lib.hid (O.keep.trans K (fun b hb _ => by rw [List.mem_singleton.1 hb]; exact TM)); clear K O TM))
 go_returns
 exact ⟨rfl, ⟨_, _, by rw [HN.out, HK.out]; exact T, fun b hb => by rcases List.mem_append.1 hb with h | h; (· exact .inr (by rw [show b = g by simpa [Value.ownBlock] using h]; exact HG.out.1)); (· exact .inl h)⟩, HKP.out⟩
set_option maxRecDepth 100000 in
set_option maxHeartbeats 1000000 in
theorem note_10 (T : TkAt w base r gN nb mt f X nc kc m) (hi0 : i0 < r) (hck : nc i0 = ck) (hr : r ≤ 1000000) (hm : m ≤ 200000) (hkl : ∀ i a, i < 3 → (kc i a).length ≤ r) (hwa : (Lit.int .i64 a).wf = true) (hj : j ≤ 40000)  :
   Calls Try.prog 100 #[.agg (evC ⟨who, 10, a, v, sh⟩), .slice (some ⟨nb i0, 0, none⟩) r r, .slice (some ⟨gN, 0, none⟩) r r, .map (some (mt 0)), .map (some (mt 1)), .map (some (mt 2)), .int .i64 (j : Int)] w (NotePost w base r gN nb mt X (noteN r nc ck ⟨who, 10, a, v, sh⟩) (noteK r kc ck j ⟨who, 10, a, v, sh⟩) m) := by
 have O := Own.start w X
 have HCK := Lib.hid hck
 have HKL := Lib.hid hkl
 have HWA := Lib.hid hwa
 have HM := Lib.hid (show m < maxLen by simp only [maxLen]; omega)
 have HWJ := Lib.hid (wf_small (n := (j : Int)) (by omega) (by omega))
 have HLX := Lib.hid (fun b (hb : b ∈ X) => (T.ltX b hb).2)
 have HBW := Lib.hid (show base ≤ w.heap.size by have := T.ltX gN T.gX; omega)
 have HN := Lib.hid (show noteN r nc ck ⟨who, 10, a, v, sh⟩ = nc by simp [noteN])
 have HK := Lib.hid (show noteK r kc ck (j : Int) ⟨who, 10, a, v, sh⟩ = updN kc 1 (updI (kc 1) a (joinR r ck (kc 1 a))) by simp [noteK])
 clear hck hkl hwa
 go_enter Try.func100, Try.ntmps100
 go_wp2_with (first
   | (refine own_boxK 7 (#[Value.int .i64 who, .int .i64 10, .int .i64 a, .int .i64 v, .bool sh]) O rfl rfl rfl rfl ?_; clear O; intro W b7 O K hb; replace T := T.keptS K (by simp); clear K hb; simp only [Act.put, kA, kZ, kS])
   | (go_at_call 74; refine (clone_cur (by have := T.rows i0 hi0; rwa [HCK.out] at this) hr).mono ?_; rintro e W2 ⟨⟨g, cp, cu, rfl, hg, hB, hle, hcm, hs, hcu⟩, K⟩; have HG := Lib.hid (And.intro (Nat.le_trans O.keep.size hg) (And.intro hB (And.intro hle (And.intro hcm (And.intro hs hcu))))); replace O := O.keeps K; replace T := T.keptS K (by simp); clear hg hB hle hcm hs hcu K; have c7 : ∀ i : Nat, W2.cell? ⟨b7, i, none⟩ = #[Value.int .i64 who, .int .i64 10, .int .i64 a, .int .i64 v, .bool sh][i]? := (O.get 0 rfl).cell; obtain ⟨A1, q1, e1, _⟩ := (T.kept 1 (by decide) a).shape; have lk : (Instr.lookup 159 (.map (some (mt 1))) (.int .i64 a) false).run Try.prog W2 = .ok (.slice A1 (kc 1 a).length q1) W2 := (by have := look_eqV (T.maps 1 (by decide)) 159 25 (.slice none 0 0) Try.underlying159 (zero25 _) a HWA.out; rwa [show (f 1 a).getD (.slice none 0 0) = .slice A1 (kc 1 a).length q1 from e1] at this); have HE1 := Lib.hid e1; clear e1; have HKN := Lib.hid (HKL.out 1 a (by decide)); obtain ⟨xs, hxs⟩ : ∃ xs, xs = kc 1 a := ⟨_, rfl⟩; rw [← hxs] at lk HKN HE1; have HXS := Lib.hid hxs; clear hxs)
   | (refine own_litS 46 (.slice A1 xs.length q1) O rfl rfl rfl rfl rfl ?_; clear O c7 lk; intro W3 gl O K hgl; replace T := T.keptS K (by simp); have HBg := Lib.hid (HG.out.2.1.keeps K (by simp)); clear K hgl; simp only [Act.put, kA, kZ, kS])
   | (go_at_call 99; have hI := (T.kept 1 (by decide) a).listL.1; rw [HE1.out, ← HXS.out] at hI; refine (joined_any HBg.out HG.out.2.2.2.2.2 (O.get 0 rfl) hI HKN.out hr (fun ad n q hv hn => ?_)).mono ?_; (· (have hx := T.kX 1 (by decide) a ad.block (by rw [HE1.out]; cases hv; rfl); have := HLX.out _ hx; have := HG.out.1; omega)); rintro e W4 ⟨rfl, ⟨cu2, hB2, hs2, hc2⟩, K⟩; have hgX : g ∉ X := (fun hm => by have := HLX.out _ hm; have := HG.out.1; omega); have HCN := Lib.hid (cur_row (Nat.le_trans HBW.out HG.out.1) hB2 HG.out.2.2.1 HG.out.2.2.2.1 (hs2.trans HG.out.2.2.2.2.1) hc2); have hb7 := blk_ne (O.get 1 rfl) HBg.out (by decide); have hbl := blk_ne (O.get 0 rfl) HBg.out (by decide); replace O := (O.wrote K (fun b hb hlt => absurd hlt (by rw [List.mem_singleton.1 hb]; have := HG.out.1; omega)) (fun q hq => by
       rcases List.mem_cons.1 hq with rfl | hq
       · simpa using hbl
       · rw [List.mem_singleton.1 hq]; simpa using hb7)).drop_ 1; replace T := T.keptS K (fun b hb => by rw [List.mem_singleton.1 hb]; exact hgX); clear K hI hgX hb7 hbl hB2 hs2 hc2; have c7 : ∀ i : Nat, W4.cell? ⟨b7, i, none⟩ = #[Value.int .i64 who, .int .i64 10, .int .i64 a, .int .i64 v, .bool sh][i]? := (O.get 0 rfl).cell)
   | (refine tk_upd 1 a (.slice (some ⟨g, 0, none⟩) r cp) (joinR r ck xs) 159 (.tmp 48) (.tmp 50) (.tmp 51) T (by decide) HCN.out (fun q hq => by obtain rfl : g = q := (by simpa [Value.ownBlock] using hq); exact fun hm => by have := HLX.out _ hm; have := HG.out.1; omega) rfl Try.underlying159 rfl rfl rfl rfl HWA.out HM.out ?_; have TM := T.mX 1 (by decide); clear T c7; intro u T K; simp only [Act.put, kA, kZ, kS]; have HKP := Lib.hid (O.keep.trans K (fun b hb _ => by rw [List.mem_singleton.1 hb]; exact TM)); clear K O TM))
 go_returns
 exact ⟨rfl, ⟨_, _, by rw [HN.out, HK.out, ← HXS.out]; exact T, fun b hb => by rcases List.mem_append.1 hb with h | h; (· exact .inr (by rw [show b = g by simpa [Value.ownBlock] using h]; exact HG.out.1)); (· exact .inl h)⟩, HKP.out⟩
set_option maxRecDepth 100000 in
set_option maxHeartbeats 1000000 in
theorem note_9 (T : TkAt w base r gN nb mt f X nc kc m) (hi0 : i0 < r) (hck : nc i0 = ck) (hr : r ≤ 1000000) (hm : m ≤ 200000) (hkl : ∀ i a, i < 3 → (kc i a).length ≤ r) (hwa : (Lit.int .i64 a).wf = true) (hj : j ≤ 40000)  :
   Calls Try.prog 100 #[.agg (evC ⟨who, 9, a, v, sh⟩), .slice (some ⟨nb i0, 0, none⟩) r r, .slice (some ⟨gN, 0, none⟩) r r, .map (some (mt 0)), .map (some (mt 1)), .map (some (mt 2)), .int .i64 (j : Int)] w (NotePost w base r gN nb mt X (noteN r nc ck ⟨who, 9, a, v, sh⟩) (noteK r kc ck j ⟨who, 9, a, v, sh⟩) m) := by
 have O := Own.start w X
 have HCK := Lib.hid hck
 have HKL := Lib.hid hkl
 have HWA := Lib.hid hwa
 have HM := Lib.hid (show m < maxLen by simp only [maxLen]; omega)
 have HWJ := Lib.hid (wf_small (n := (j : Int)) (by omega) (by omega))
 have HLX := Lib.hid (fun b (hb : b ∈ X) => (T.ltX b hb).2)
 have HBW := Lib.hid (show base ≤ w.heap.size by have := T.ltX gN T.gX; omega)
 have HN := Lib.hid (show noteN r nc ck ⟨who, 9, a, v, sh⟩ = nc by simp [noteN])
 have HK := Lib.hid (show noteK r kc ck (j : Int) ⟨who, 9, a, v, sh⟩ = updN kc 2 (updI (kc 2) a (joinR r ck (kc 2 a))) by simp [noteK])
 clear hck hkl hwa
 go_enter Try.func100, Try.ntmps100
 go_wp2_with (first
   | (refine own_boxK 7 (#[Value.int .i64 who, .int .i64 9, .int .i64 a, .int .i64 v, .bool sh]) O rfl rfl rfl rfl ?_; clear O; intro W b7 O K hb; replace T := T.keptS K (by simp); clear K hb; simp only [Act.put, kA, kZ, kS])
   | (go_at_call 74; refine (clone_cur (by have := T.rows i0 hi0; rwa [HCK.out] at this) hr).mono ?_; rintro e W2 ⟨⟨g, cp, cu, rfl, hg, hB, hle, hcm, hs, hcu⟩, K⟩; have HG := Lib.hid (And.intro (Nat.le_trans O.keep.size hg) (And.intro hB (And.intro hle (And.intro hcm (And.intro hs hcu))))); replace O := O.keeps K; replace T := T.keptS K (by simp); clear hg hB hle hcm hs hcu K; have c7 : ∀ i : Nat, W2.cell? ⟨b7, i, none⟩ = #[Value.int .i64 who, .int .i64 9, .int .i64 a, .int .i64 v, .bool sh][i]? := (O.get 0 rfl).cell; obtain ⟨A1, q1, e1, _⟩ := (T.kept 2 (by decide) a).shape; have lk : (Instr.lookup 159 (.map (some (mt 2))) (.int .i64 a) false).run Try.prog W2 = .ok (.slice A1 (kc 2 a).length q1) W2 := (by have := look_eqV (T.maps 2 (by decide)) 159 25 (.slice none 0 0) Try.underlying159 (zero25 _) a HWA.out; rwa [show (f 2 a).getD (.slice none 0 0) = .slice A1 (kc 2 a).length q1 from e1] at this); have HE1 := Lib.hid e1; clear e1; have HKN := Lib.hid (HKL.out 2 a (by decide)); obtain ⟨xs, hxs⟩ : ∃ xs, xs = kc 2 a := ⟨_, rfl⟩; rw [← hxs] at lk HKN HE1; have HXS := Lib.hid hxs; clear hxs)
   | (refine own_litS 59 (.slice A1 xs.length q1) O rfl rfl rfl rfl rfl ?_; clear O c7 lk; intro W3 gl O K hgl; replace T := T.keptS K (by simp); have HBg := Lib.hid (HG.out.2.1.keeps K (by simp)); clear K hgl; simp only [Act.put, kA, kZ, kS])
   | (go_at_call 99; have hI := (T.kept 2 (by decide) a).listL.1; rw [HE1.out, ← HXS.out] at hI; refine (joined_any HBg.out HG.out.2.2.2.2.2 (O.get 0 rfl) hI HKN.out hr (fun ad n q hv hn => ?_)).mono ?_; (· (have hx := T.kX 2 (by decide) a ad.block (by rw [HE1.out]; cases hv; rfl); have := HLX.out _ hx; have := HG.out.1; omega)); rintro e W4 ⟨rfl, ⟨cu2, hB2, hs2, hc2⟩, K⟩; have hgX : g ∉ X := (fun hm => by have := HLX.out _ hm; have := HG.out.1; omega); have HCN := Lib.hid (cur_row (Nat.le_trans HBW.out HG.out.1) hB2 HG.out.2.2.1 HG.out.2.2.2.1 (hs2.trans HG.out.2.2.2.2.1) hc2); have hb7 := blk_ne (O.get 1 rfl) HBg.out (by decide); have hbl := blk_ne (O.get 0 rfl) HBg.out (by decide); replace O := (O.wrote K (fun b hb hlt => absurd hlt (by rw [List.mem_singleton.1 hb]; have := HG.out.1; omega)) (fun q hq => by
       rcases List.mem_cons.1 hq with rfl | hq
       · simpa using hbl
       · rw [List.mem_singleton.1 hq]; simpa using hb7)).drop_ 1; replace T := T.keptS K (fun b hb => by rw [List.mem_singleton.1 hb]; exact hgX); clear K hI hgX hb7 hbl hB2 hs2 hc2; have c7 : ∀ i : Nat, W4.cell? ⟨b7, i, none⟩ = #[Value.int .i64 who, .int .i64 9, .int .i64 a, .int .i64 v, .bool sh][i]? := (O.get 0 rfl).cell)
   | (refine tk_upd 2 a (.slice (some ⟨g, 0, none⟩) r cp) (joinR r ck xs) 159 (.tmp 61) (.tmp 63) (.tmp 64) T (by decide) HCN.out (fun q hq => by obtain rfl : g = q := (by simpa [Value.ownBlock] using hq); exact fun hm => by have := HLX.out _ hm; have := HG.out.1; omega) rfl Try.underlying159 rfl rfl rfl rfl HWA.out HM.out ?_; have TM := T.mX 2 (by decide); clear T c7; intro u T K; simp only [Act.put, kA, kZ, kS]; have HKP := Lib.hid (O.keep.trans K (fun b hb _ => by rw [List.mem_singleton.1 hb]; exact TM)); clear K O TM))
 go_returns
 exact ⟨rfl, ⟨_, _, by rw [HN.out, HK.out, ← HXS.out]; exact T, fun b hb => by rcases List.mem_append.1 hb with h | h; (· exact .inr (by rw [show b = g by simpa [Value.ownBlock] using h]; exact HG.out.1)); (· exact .inl h)⟩, HKP.out⟩
set_option maxRecDepth 100000 in
set_option maxHeartbeats 1000000 in
theorem note_8 (T : TkAt w base r gN nb mt f X nc kc m) (hi0 : i0 < r) (hck : nc i0 = ck) (hr : r ≤ 1000000) (hm : m ≤ 200000) (hkl : ∀ i a, i < 3 → (kc i a).length ≤ r) (hwa : (Lit.int .i64 a).wf = true) (hj : j ≤ 40000)  :
   Calls Try.prog 100 #[.agg (evC ⟨who, 8, a, v, sh⟩), .slice (some ⟨nb i0, 0, none⟩) r r, .slice (some ⟨gN, 0, none⟩) r r, .map (some (mt 0)), .map (some (mt 1)), .map (some (mt 2)), .int .i64 (j : Int)] w (NotePost w base r gN nb mt X (noteN r nc ck ⟨who, 8, a, v, sh⟩) (noteK r kc ck j ⟨who, 8, a, v, sh⟩) m) := by
 have O := Own.start w X
 have HCK := Lib.hid hck
 have HKL := Lib.hid hkl
 have HWA := Lib.hid hwa
 have HM := Lib.hid (show m < maxLen by simp only [maxLen]; omega)
 have HWJ := Lib.hid (wf_small (n := (j : Int)) (by omega) (by omega))
 have HLX := Lib.hid (fun b (hb : b ∈ X) => (T.ltX b hb).2)
 have HBW := Lib.hid (show base ≤ w.heap.size by have := T.ltX gN T.gX; omega)
 have HN := Lib.hid (show noteN r nc ck ⟨who, 8, a, v, sh⟩ = nc by simp [noteN])
 have HK := Lib.hid (show noteK r kc ck (j : Int) ⟨who, 8, a, v, sh⟩ = updN kc 2 (updI (kc 2) a []) by simp [noteK])
 clear hck hkl hwa
 go_enter Try.func100, Try.ntmps100
 go_wp2_with (first
   | (refine own_boxK 7 (#[Value.int .i64 who, .int .i64 8, .int .i64 a, .int .i64 v, .bool sh]) O rfl rfl rfl rfl ?_; clear O; intro W b7 O K hb; replace T := T.keptS K (by simp); clear K hb; simp only [Act.put, kA, kZ, kS])
   | (go_at_call 74; refine (clone_cur (by have := T.rows i0 hi0; rwa [HCK.out] at this) hr).mono ?_; rintro e W2 ⟨⟨g, cp, cu, rfl, hg, hB, hle, hcm, hs, hcu⟩, K⟩; have HG := Lib.hid (And.intro (Nat.le_trans O.keep.size hg) (And.intro hB (And.intro hle (And.intro hcm (And.intro hs hcu))))); replace O := O.keeps K; replace T := T.keptS K (by simp); clear hg hB hle hcm hs hcu K; have c7 : ∀ i : Nat, W2.cell? ⟨b7, i, none⟩ = #[Value.int .i64 who, .int .i64 8, .int .i64 a, .int .i64 v, .bool sh][i]? := (O.get 0 rfl).cell; skip)
   | (refine tk_upd 2 a (.slice none 0 0) [] 159 (.tmp 67) (.tmp 69) (.const (.slice none 0 0)) T (by decide) (HRow.nil _ _) (fun q hq => by cases hq) rfl Try.underlying159 rfl rfl rfl rfl HWA.out HM.out ?_; have TM := T.mX 2 (by decide); clear T c7; intro u T K; simp only [Act.put, kA, kZ, kS]; have HKP := Lib.hid (O.keep.trans K (fun b hb _ => by rw [List.mem_singleton.1 hb]; exact TM)); clear K O TM))
 go_returns
 exact ⟨rfl, ⟨_, _, by rw [HN.out, HK.out]; exact T, fun b hb => .inl (by simpa [Value.ownBlock] using hb)⟩, HKP.out⟩
set_option maxRecDepth 100000 in
set_option maxHeartbeats 1000000 in
theorem note_14b (T : TkAt w base r gN nb mt f X nc kc m) (hi0 : i0 < r) (hck : nc i0 = ck) (hr : r ≤ 1000000) (hm : m ≤ 200000) (hkl : ∀ i a, i < 3 → (kc i a).length ≤ r) (hwa : (Lit.int .i64 a).wf = true) (hj : j ≤ 40000) (hv0 : 0 < vN) (hvr : vN < r) (hvi : vN ≠ i0) :
   Calls Try.prog 100 #[.agg (evC ⟨who, 14, a, (vN : Int), sh⟩), .slice (some ⟨nb i0, 0, none⟩) r r, .slice (some ⟨gN, 0, none⟩) r r, .map (some (mt 0)), .map (some (mt 1)), .map (some (mt 2)), .int .i64 (j : Int)] w (NotePost w base r gN nb mt X (noteN r nc ck ⟨who, 14, a, (vN : Int), sh⟩) (noteK r kc ck j ⟨who, 14, a, (vN : Int), sh⟩) m) := by
 have O := Own.start w X
 have HCK := Lib.hid hck
 have HKL := Lib.hid hkl
 have HWA := Lib.hid hwa
 have HM := Lib.hid (show m < maxLen by simp only [maxLen]; omega)
 have HWJ := Lib.hid (wf_small (n := (j : Int)) (by omega) (by omega))
 have HLX := Lib.hid (fun b (hb : b ∈ X) => (T.ltX b hb).2)
 have HBW := Lib.hid (show base ≤ w.heap.size by have := T.ltX gN T.gX; omega)
 have HN := Lib.hid (show noteN r nc ck ⟨who, 14, a, (vN : Int), sh⟩ = updN nc vN (jmax (nc vN) (rowOf r ck) r) by
   unfold noteN
   rw [if_pos ⟨rfl, by show (0 : Int) < (vN : Int); omega⟩]
   show updN nc (vN : Int).toNat (jmax (nc (vN : Int).toNat) _ _) = _
   rw [Int.toNat_natCast])
 have HK := Lib.hid (show noteK r kc ck (j : Int) ⟨who, 14, a, (vN : Int), sh⟩ = kc by simp [noteK])
 have HVI := Lib.hid hvi
 have g6 : decide (0 < vN) = true := decide_eq_true hv0
 have g7 : (vN : Int) < r := by omega
 have g8 : (0 : Int) ≤ vN := by omega
 clear hvi
 clear hck hkl hwa
 go_enter Try.func100, Try.ntmps100
 go_wp2_with (first
   | (refine own_boxK 7 (#[Value.int .i64 who, .int .i64 14, .int .i64 a, .int .i64 (vN : Int), .bool sh]) O rfl rfl rfl rfl ?_; clear O; intro W b7 O K hb; replace T := T.keptS K (by simp); clear K hb; simp only [Act.put, kA, kZ, kS])
   | (go_at_call 74; refine (clone_cur (by have := T.rows i0 hi0; rwa [HCK.out] at this) hr).mono ?_; rintro e W2 ⟨⟨g, cp, cu, rfl, hg, hB, hle, hcm, hs, hcu⟩, K⟩; have HG := Lib.hid (And.intro (Nat.le_trans O.keep.size hg) (And.intro hB (And.intro hle (And.intro hcm (And.intro hs hcu))))); replace O := O.keeps K; replace T := T.keptS K (by simp); clear hg hB hle hcm hs hcu K; have c7 : ∀ i : Nat, W2.cell? ⟨b7, i, none⟩ = #[Value.int .i64 who, .int .i64 14, .int .i64 a, .int .i64 (vN : Int), .bool sh][i]? := (O.get 0 rfl).cell; have cN : W2.cell? ⟨gN, vN, none⟩ = some (.slice (some ⟨nb vN, 0, none⟩) r r) := (T.now.cell vN).trans (rowsA_get _ _ _ hvr))
   | (refine own_litS 30 (.slice (some ⟨nb i0, 0, none⟩) r r) O rfl rfl rfl rfl rfl ?_; clear O c7 cN; intro W3 gl O K hgl; replace T := T.keptS K (by simp); clear K hgl; simp only [Act.put, kA, kZ, kS])
   | (go_at_call 99; obtain ⟨cur, hBv, hcv⟩ := T.rows vN hvr; have hI := (T.rows i0 hi0).ints r; rw [HCK.out] at hI; refine (joined_any hBv hcv (O.get 0 rfl) hI (by rw [rowOf_length]; exact Nat.le_refl _) hr (fun ad n q hv hn => ?_)).mono ?_; (· (cases hv; exact fun e => T.nbne vN i0 hvr hi0 HVI.out e.symm)); rintro e W4 ⟨rfl, ⟨cu2, hB2, hs2, hc2⟩, K⟩; have hb7 := blk_ne (O.get 1 rfl) hBv (by decide); have hbl := blk_ne (O.get 0 rfl) hBv (by decide); have hnX := T.nX vN hvr; have HKP := Lib.hid (O.wrote K (fun b hb hlt => by rw [List.mem_singleton.1 hb]; exact hnX) (fun q hq => by
       rcases List.mem_cons.1 hq with rfl | hq
       · simpa using hbl
       · rw [List.mem_singleton.1 hq]; simpa using hb7)).keep; rw [rowOf_length] at hc2; replace T := T.setNow hvr K ⟨cu2, hB2, hc2⟩; clear K hI hb7 hbl hnX hB2 hs2 hc2 hBv hcv O))
 go_returns
 exact ⟨rfl, ⟨_, _, by rw [HN.out, HK.out]; exact T.mono (by omega), fun b hb => .inl hb⟩, HKP.out⟩
set_option maxRecDepth 100000 in
set_option maxHeartbeats 1000000 in
theorem note_14a (T : TkAt w base r gN nb mt f X nc kc m) (hi0 : i0 < r) (hck : nc i0 = ck) (hr : r ≤ 1000000) (hm : m ≤ 200000) (hkl : ∀ i a, i < 3 → (kc i a).length ≤ r) (hwa : (Lit.int .i64 a).wf = true) (hj : j ≤ 40000) (hv : ¬ 0 < v) :
   Calls Try.prog 100 #[.agg (evC ⟨who, 14, a, v, sh⟩), .slice (some ⟨nb i0, 0, none⟩) r r, .slice (some ⟨gN, 0, none⟩) r r, .map (some (mt 0)), .map (some (mt 1)), .map (some (mt 2)), .int .i64 (j : Int)] w (NotePost w base r gN nb mt X (noteN r nc ck ⟨who, 14, a, v, sh⟩) (noteK r kc ck j ⟨who, 14, a, v, sh⟩) m) := by
 have O := Own.start w X
 have HCK := Lib.hid hck
 have HKL := Lib.hid hkl
 have HWA := Lib.hid hwa
 have HM := Lib.hid (show m < maxLen by simp only [maxLen]; omega)
 have HWJ := Lib.hid (wf_small (n := (j : Int)) (by omega) (by omega))
 have HLX := Lib.hid (fun b (hb : b ∈ X) => (T.ltX b hb).2)
 have HBW := Lib.hid (show base ≤ w.heap.size by have := T.ltX gN T.gX; omega)
 have HN := Lib.hid (show noteN r nc ck ⟨who, 14, a, v, sh⟩ = nc by unfold noteN; rw [if_neg (fun q => hv q.2)])
 have HK := Lib.hid (show noteK r kc ck (j : Int) ⟨who, 14, a, v, sh⟩ = kc by simp [noteK])
 have g6 : decide (0 < v) = false := decide_eq_false hv
 clear hck hkl hwa
 go_enter Try.func100, Try.ntmps100
 go_wp2_with (first
   | (refine own_boxK 7 (#[Value.int .i64 who, .int .i64 14, .int .i64 a, .int .i64 v, .bool sh]) O rfl rfl rfl rfl ?_; clear O; intro W b7 O K hb; replace T := T.keptS K (by simp); clear K hb; simp only [Act.put, kA, kZ, kS])
   | (go_at_call 74; refine (clone_cur (by have := T.rows i0 hi0; rwa [HCK.out] at this) hr).mono ?_; rintro e W2 ⟨⟨g, cp, cu, rfl, hg, hB, hle, hcm, hs, hcu⟩, K⟩; have HG := Lib.hid (And.intro (Nat.le_trans O.keep.size hg) (And.intro hB (And.intro hle (And.intro hcm (And.intro hs hcu))))); replace O := O.keeps K; replace T := T.keptS K (by simp); clear hg hB hle hcm hs hcu K; have c7 : ∀ i : Nat, W2.cell? ⟨b7, i, none⟩ = #[Value.int .i64 who, .int .i64 14, .int .i64 a, .int .i64 v, .bool sh][i]? := (O.get 0 rfl).cell; skip))
 go_returns
 exact ⟨rfl, ⟨_, _, by rw [HN.out, HK.out]; exact T.mono (by omega), fun b hb => .inl hb⟩, O.keep⟩
set_option maxRecDepth 100000 in
set_option maxHeartbeats 1000000 in
theorem note_o (T : TkAt w base r gN nb mt f X nc kc m) (hi0 : i0 < r) (hck : nc i0 = ck) (hr : r ≤ 1000000) (hm : m ≤ 200000) (hkl : ∀ i a, i < 3 → (kc i a).length ≤ r) (hwa : (Lit.int .i64 a).wf = true) (hj : j ≤ 40000) (h5 : ¬ op = 5) (h6 : ¬ op = 6) (h7 : ¬ op = 7) (h8 : ¬ op = 8) (h9 : ¬ op = 9) (h10 : ¬ op = 10) (h14 : ¬ op = 14) :
   Calls Try.prog 100 #[.agg (evC ⟨who, op, a, v, sh⟩), .slice (some ⟨nb i0, 0, none⟩) r r, .slice (some ⟨gN, 0, none⟩) r r, .map (some (mt 0)), .map (some (mt 1)), .map (some (mt 2)), .int .i64 (j : Int)] w (NotePost w base r gN nb mt X (noteN r nc ck ⟨who, op, a, v, sh⟩) (noteK r kc ck j ⟨who, op, a, v, sh⟩) m) := by
 have O := Own.start w X
 have HCK := Lib.hid hck
 have HKL := Lib.hid hkl
 have HWA := Lib.hid hwa
 have HM := Lib.hid (show m < maxLen by simp only [maxLen]; omega)
 have HWJ := Lib.hid (wf_small (n := (j : Int)) (by omega) (by omega))
 have HLX := Lib.hid (fun b (hb : b ∈ X) => (T.ltX b hb).2)
 have HBW := Lib.hid (show base ≤ w.heap.size by have := T.ltX gN T.gX; omega)
 have HN := Lib.hid (show noteN r nc ck ⟨who, op, a, v, sh⟩ = nc by simp [noteN, h14])
 have HK := Lib.hid (show noteK r kc ck (j : Int) ⟨who, op, a, v, sh⟩ = kc by simp [noteK, h5, h6, h7, h8, h9, h10])
 have q5 : (op == 5) = false := by simpa using h5
 have q6 : (op == 6) = false := by simpa using h6
 have q7 : (op == 7) = false := by simpa using h7
 have q8 : (op == 8) = false := by simpa using h8
 have q9 : (op == 9) = false := by simpa using h9
 have q10 : (op == 10) = false := by simpa using h10
 have q14 : (op == 14) = false := by simpa using h14
 clear h5 h6 h7 h8 h9 h10 h14
 clear hck hkl hwa
 go_enter Try.func100, Try.ntmps100
 go_wp2_with (first
   | (refine own_boxK 7 (#[Value.int .i64 who, .int .i64 op, .int .i64 a, .int .i64 v, .bool sh]) O rfl rfl rfl rfl ?_; clear O; intro W b7 O K hb; replace T := T.keptS K (by simp); clear K hb; simp only [Act.put, kA, kZ, kS])
   | (go_at_call 74; refine (clone_cur (by have := T.rows i0 hi0; rwa [HCK.out] at this) hr).mono ?_; rintro e W2 ⟨⟨g, cp, cu, rfl, hg, hB, hle, hcm, hs, hcu⟩, K⟩; have HG := Lib.hid (And.intro (Nat.le_trans O.keep.size hg) (And.intro hB (And.intro hle (And.intro hcm (And.intro hs hcu))))); replace O := O.keeps K; replace T := T.keptS K (by simp); clear hg hB hle hcm hs hcu K; have c7 : ∀ i : Nat, W2.cell? ⟨b7, i, none⟩ = #[Value.int .i64 who, .int .i64 op, .int .i64 a, .int .i64 v, .bool sh][i]? := (O.get 0 rfl).cell; skip))
 go_returns
 exact ⟨rfl, ⟨_, _, by rw [HN.out, HK.out]; exact T.mono (by omega), fun b hb => .inl hb⟩, O.keep⟩
theorem note_any (e : Ev) (T : TkAt w base r gN nb mt f X nc kc m) (hi0 : i0 < r) (hck : nc i0 = ck) (hr : r ≤ 1000000) (hm : m ≤ 200000) (hkl : ∀ i a, i < 3 → (kc i a).length ≤ r) (hwa : (Lit.int .i64 e.a).wf = true) (hj : j ≤ 40000) (h14 : e.op = 14 → 0 < e.v → ∃ vN : Nat, e.v = (vN : Int) ∧ vN < r ∧ vN ≠ i0) :
   Calls Try.prog 100 #[.agg (evC e), .slice (some ⟨nb i0, 0, none⟩) r r, .slice (some ⟨gN, 0, none⟩) r r, .map (some (mt 0)), .map (some (mt 1)), .map (some (mt 2)), .int .i64 (j : Int)] w (NotePost w base r gN nb mt X (noteN r nc ck e) (noteK r kc ck j e) m) := by
 obtain ⟨who, op, a, v, sh⟩ := e
 simp only at hwa h14
 by_cases o5 : op = 5
 · subst o5; exact note_5 T hi0 hck hr hm hkl hwa hj
 by_cases o6 : op = 6
 · subst o6; exact note_6 T hi0 hck hr hm hkl hwa hj
 by_cases o7 : op = 7
 · subst o7; exact note_7 T hi0 hck hr hm hkl hwa hj
 by_cases o8 : op = 8
 · subst o8; exact note_8 T hi0 hck hr hm hkl hwa hj
 by_cases o9 : op = 9
 · subst o9; exact note_9 T hi0 hck hr hm hkl hwa hj
 by_cases o10 : op = 10
 · subst o10; exact note_10 T hi0 hck hr hm hkl hwa hj
 by_cases o14 : op = 14
 · subst o14
   by_cases hv : 0 < v
   · obtain ⟨vN, rfl, h1, h2⟩ := h14 rfl hv
     exact note_14b T hi0 hck hr hm hkl hwa hj (by omega) h1 h2
   · exact note_14a T hi0 hck hr hm hkl hwa hj hv
 exact note_o T hi0 hck hr hm hkl hwa hj o5 o6 o7 o8 o9 o10 o14
end
end Go.Proofs.Ytakmcpadkanggaa

/-
 Part 8 of what this claim rests on.
-/
import Derived.Test.YtakmcpadkanggaaOd7
namespace Go.Proofs.Ytakmcpadkanggaa
open Go.RowKit Go.Maps Go.Deep
section
variable {ops : Array Oper} {rest : List Oper} {o : Oper} {a : Act} {w W : World} {Q : Exit → Act → World → Prop} {S : List Nat} {L : List Ent} {x0 x1 x : Operand} {T : TypeId}
theorem own_litB (d : Nat) (n0 n1 : Int) (O : Own w W S L) (_hd : o.dst = some d) (hgd : o.guard = none) (ho : o.op = .buildSlice 25 2 #[(0, x0), (1, x1)]) (h0 : a.eval x0 = .int .i64 n0) (h1 : a.eval x1 = .int .i64 n1)
   (h : ∀ u g, Own w u S ((g, 3, #[.int .i64 n0, .int .i64 n1]) :: L) → Keeps W u [] → wpList Try.prog ops Q rest (a.put o.dst (.slice (some ⟨g, 0, none⟩) 2 2)) u) : wpList Try.prog ops Q (o :: rest) a W := by
 obtain ⟨i, hi, hz, hs, hb⟩ := info3
 have k := (Keeps.refl W []).alloc (.cells #[Value.int .i64 n0, .int .i64 n1] 3)
 refine wpList_buildSlice hgd 25 3 2 _ ho #[.int .i64 n0, .int .i64 n1] i (.int .i64 0) Try.underlying25 hi hz (by rw [hs]; decide) (by rw [hs]; decide) ?_ (h _ _ (O.add k (Blk.new _ _ _)) k)
 rw [hs]
 have e : ((#[(0, x0), (1, x1)] : Array (Nat × Operand)).map (fun (i, x) => (i, a.eval x))).toList = [(0, .int .i64 n0), (1, .int .i64 n1)] := by simp [h0, h1]
 rw [e]
 have r : Array.range 2 = #[0, 1] := by decide
 simp [Instr.fill, r, Value.cells]
end
theorem litB_cell {W : World} {g : Nat} {n0 n1 : Int} (h : Blk W g 3 #[.int .i64 n0, .int .i64 n1]) {j : Nat} (hj : j < [n0, n1].length) : W.cell? ((⟨g, 0, none⟩ : Addr).add j) = some (.int .i64 ([n0, n1].getD j 0)) := by
 rw [blk_add h j]
 match j, hj with
 | 0, _ => rfl
 | 1, _ => rfl
def beforeR (S : Sys) (E : Nat → Ev) (n : Nat) (i j : Int) : Bool × Int :=
 if (askedR S E n [i, j]).2 = 0 then (befB E (rmS S) i.toNat j.toNat, 0) else (false, (askedR S E n [i, j]).2)
section
variable {w : World} {S : Sys} {A : Option Addr} {c : Nat} {R : Option Addr} {d n : Nat} {E : Nat → Ev} {B : Option Addr} {cb : Nat}
theorem val_rooms {S : Sys} (h : validB S = true) : ∀ q, q < S.nr → 1 ≤ S.rm q ∧ S.rm q ≤ 1000000 := fun q hq => by
 have := ((validB_iff S).1 h).2.1 q hq
 simp [roomB] at this
 omega
theorem thr_r (h : (thr S E n).2.2 = 0) : (thr S E n).1 = (stN E n).r := by
 unfold thr at h ⊢
 cases hv : validB S with
 | false => rw [hv] at h; simp at h
 | true =>
   rw [hv] at h
   by_cases hn : 40000 < n
   · simp [hn] at h
   · rw [if_pos rfl, if_neg hn] at h
     cases hf : firstBad S E n with
     | some i => rw [hf] at h; simp at h
     | none => rw [if_pos rfl, if_neg hn]
theorem asked_two (i j : Int) (h : (askedR S E n [i, j]).2 = 0) : (thr S E n).2.2 = 0 ∧ (0 ≤ i ∧ i < n) ∧ (0 ≤ j ∧ j < n) ∧ askedR S E n [i, j] = ((stN E n).r, 0) := by
 unfold askedR at h ⊢
 by_cases h0 : (thr S E n).2.2 = 0
 · rw [if_pos h0] at h ⊢
   by_cases hi : [i, j].all (insB n) = true
   · have h2 := hi
     simp only [List.all_cons, List.all_nil, Bool.and_true, Bool.and_eq_true, insB, decide_eq_true_eq] at h2
     exact ⟨h0, h2.1, h2.2, by rw [if_pos hi, thr_r h0]⟩
   · rw [if_neg hi] at h; simp at h
 · rw [if_neg h0] at h; exact absurd h h0
set_option maxRecDepth 100000 in
set_option maxHeartbeats 1000000 in
theorem tbefore_any (hS : SysIn w S A c R d) (hE : EvsAt w B n E) (hcb : n ≤ cb) (hwf : ∀ i, i < n → (Lit.int .i64 (E i).a).wf = true) (i j : Int) : Calls Try.prog 44 #[.agg (sysV S A c R d), .slice B n cb, .int .i64 i, .int .i64 j] w fun e u => e = .returned (.tuple #[.bool (beforeR S E n i j).1, .int .i64 (beforeR S E n i j).2]) ∧ Keeps w u [] := by
 have O := Own.start w []
 have HA := Lib.hid (show ∀ u, Keeps w u [] → ∀ v, IntL u v [i, j] → Calls Try.prog 62 #[.agg (sysV S A c R d), .slice B n cb, v] u fun e w' => e = .returned (.tuple #[.int .i64 (askedR S E n [i, j]).1, .int .i64 (askedR S E n [i, j]).2]) ∧ Keeps u w' [] from fun u k v hv => asked_any (cb := cb) (hS.kept k) (hE.kept k) hwf v [i, j] hv (by simp))
 by_cases h : (askedR S E n [i, j]).2 = 0
 · obtain ⟨ht, ⟨hi0, hi1⟩, ⟨hj0, hj1⟩, hR⟩ := asked_two i j h
   obtain ⟨hv, hn, hok⟩ := thr_zero ht
   have hl := stN_le E n
   obtain ⟨p, rfl⟩ : ∃ p : Nat, i = (p : Int) := ⟨i.toNat, by omega⟩
   obtain ⟨q, rfl⟩ : ∃ q : Nat, j = (q : Int) := ⟨j.toNat, by omega⟩
   obtain ⟨r, hr⟩ : ∃ r : Nat, (stN E n).r = (r : Int) := ⟨(stN E n).r.toNat, by omega⟩
   have HF := Lib.hid (show beforeR S E n (p : Int) (q : Int) = (befB E (rmS S) p q, 0) by unfold beforeR; rw [if_pos h]; simp)
   have HB := Lib.hid (fun u (K : Keeps w u []) => before_any (cb := cb) (r := r) (i := p) (j := q) (hS.kept K) (hE.kept K) (val_rooms hv) hok hn hwf (by omega) (by omega) (by omega) (by omega) hcb)
   rw [hR, hr] at HA
   clear hS hE hcb hwf h ht hi0 hi1 hj0 hj1 hR hv hn hok hl hr
   go_enter Try.func44, Try.ntmps44
   go_wp2_with (first
     | go_big_skip
     | (refine own_box 4 (sysV S A c R d) O rfl rfl rfl rfl ?_; clear O; intro W b4 O; simp only [Act.put, kA, kZ, kS])
     | (refine own_load 13 0 O rfl rfl rfl rfl rfl Try.underlying27 rfl (by kernel_rfl) ?_; simp only [Act.put, kA, kZ, kS])
     | (refine own_load 24 0 O rfl rfl rfl rfl rfl Try.underlying27 rfl (by kernel_rfl) ?_; simp only [Act.put, kA, kZ, kS])
     | (refine own_litB 17 (p : Int) (q : Int) O rfl rfl rfl rfl rfl ?_; clear O; intro W gl O K1; clear K1; simp only [Act.put, kA, kZ, kS])
     | (go_at_call 62; refine (HA.out _ O.keep _ ⟨_, 2, rfl, fun _ => ⟨⟨gl, 0, none⟩, rfl, O.lt 0 rfl, fun j hj => litB_cell (O.get 0 rfl) hj⟩⟩).mono ?_; rintro e W ⟨rfl, K⟩; replace O := (O.keeps K).drop_ 1; clear K)
     | (go_at_call 79; refine (HB.out _ O.keep).mono ?_; rintro e W ⟨rfl, K⟩; replace O := O.keeps K; clear K))
   go_returns
   exact ⟨by rw [HF.out]; rfl, O.keep⟩
 · have HF := Lib.hid (show beforeR S E n i j = (false, (askedR S E n [i, j]).2) by unfold beforeR; rw [if_neg h])
   generalize beforeR S E n i j = r at HF ⊢
   generalize askedR S E n [i, j] = x at HA HF h
   obtain ⟨x0, x1⟩ := x
   simp only at h HF HA
   clear hS hE hwf hcb
   go_enter Try.func44, Try.ntmps44
   go_wp2_with (first
     | go_big_skip
     | (refine own_box 4 (sysV S A c R d) O rfl rfl rfl rfl ?_; clear O; intro W b4 O; simp only [Act.put, kA, kZ, kS])
     | (refine own_load 13 0 O rfl rfl rfl rfl rfl Try.underlying27 rfl (by kernel_rfl) ?_; simp only [Act.put, kA, kZ, kS])
     | (refine own_litB 17 i j O rfl rfl rfl rfl rfl ?_; clear O; intro W gl O K1; clear K1; simp only [Act.put, kA, kZ, kS])
     | (go_at_call 62; refine (HA.out _ O.keep _ ⟨_, 2, rfl, fun _ => ⟨⟨gl, 0, none⟩, rfl, O.lt 0 rfl, fun j hj => litB_cell (O.get 0 rfl) hj⟩⟩).mono ?_; rintro e W ⟨rfl, K⟩; replace O := (O.keeps K).drop_ 1; clear K))
   go_returns
   exact ⟨by rw [HF.out]; rfl, O.keep⟩
end
open Go.ChangeShapes Go.WideShapes Go.RowKit Go.Maps Go.Deep
section
variable {H : Type} {enc : TypeId × Value → H} {w : World}
def InstsWf (n : Nat) (f : Nat → Nat → Int) : Prop := ∀ i, i < n → (Lit.int .i64 (f i 1)).wf = true
def QWf (S : Sys) : Prop := ∀ p, p < S.np → InstsWf (S.lp p) (S.q p)
end
def AWf (P : PW) (x : PW × Int) : Prop := ∃ e, x.1.ev = P.ev ++ [e] ∧ (Lit.int .i64 e.a).wf = true
theorem awf_ite {P : PW} {c : Prop} [Decidable c] {x y : PW × Int} (h1 : c → AWf P x) (h2 : ¬ c → AWf P y) : AWf P (if c then x else y) := by
 by_cases h : c
 · rw [if_pos h]; exact h1 h
 · rw [if_neg h]; exact h2 h
theorem stepP_awf (S : Sys) (P : PW) (k : Nat) (f : Nat → Int) (hf : (Lit.int .i64 (f 1)).wf = true) (hce : f 0 = 12 ∨ f 0 = 13 → 0 < S.ce ∧ S.ce ≤ 64) : AWf P (stepP S P k f) := by
 have hm : ∀ x : Int, (f 0 = 12 ∨ f 0 = 13) → (Lit.int .i64 (x % S.ce)).wf = true := fun x h => by
   obtain ⟨h1, h2⟩ := hce h
   have a1 := Int.emod_nonneg x (b := S.ce) (by omega)
   have a2 := Int.emod_lt_of_pos x (b := S.ce) (by omega)
   exact wf_small (by omega) (by omega)
 unfold stepP
 simp only []
 repeat' (refine awf_ite (fun _ => ?_) (fun _ => ?_))
 all_goals first
   | exact ⟨_, rfl, hf⟩
   | exact ⟨_, rfl, rfl⟩
   | exact ⟨_, rfl, hm _ (by first | exact .inl (by assumption) | exact .inr (by assumption))⟩
   | (cases P.held (f 1).toNat <;> exact ⟨_, rfl, hf⟩)
theorem valid_cells {S : Sys} (hv : validB S = true) : 0 ≤ S.ce ∧ S.ce ≤ 64 := by
 have := ((headB_iff S).1 ((validB_iff S).1 hv).1).2.2.2.2.2
 rw [shB_iff] at this
 omega
theorem runP_awf (S : Sys) (hv : validB S = true) (hq : QWf S) (picks : List Int) : ∀ fuel t P, RInv S P → (∀ e ∈ P.ev, (Lit.int .i64 e.a).wf = true) → ∀ e ∈ (runP S picks fuel t P).P.ev, (Lit.int .i64 e.a).wf = true
 | 0, t, P, hr, h => h
 | fuel + 1, t, P, hr, h => by
   unfold runP
   by_cases c1 : endedN S P P.n = true
   · simp only [c1, if_true]; exact h
   by_cases c2 : 40000 ≤ t
   · simp only [c1, c2, if_true, if_false, Bool.false_eq_true]; exact h
   by_cases c3 : readyN S P P.n = []
   · simp only [c1, c2, c3, if_true, if_false, Bool.false_eq_true]; exact h
   simp only [c1, c2, c3, if_false, Bool.false_eq_true]
   obtain ⟨q1, f, q2, q3⟩ := picked S P picks t c3
   generalize (readyN S P P.n).getD (pickP picks t (readyN S P P.n).length) 0 = k at *
   simp only [q2]
   have hrt := right_of hv (hr k q1) q2
   have hfw : (Lit.int .i64 (f 1)).wf = true := by
     unfold instP at q2
     split at q2
     · rename_i hlt
       injection q2 with q2
       rw [← q2]
       exact hq _ (hr k q1) _ hlt
     · cases q2
   obtain ⟨e, e1, e2⟩ := stepP_awf S P k f hfw (fun ho => by have := right_cells hrt ho; have := valid_cells hv; omega)
   have hk2 : ∀ x ∈ (stepP S P k f).1.ev, (Lit.int .i64 x.a).wf = true := fun x hx => by
     rw [e1] at hx
     rcases List.mem_append.1 hx with hx | hx
     · exact h x hx
     · rw [List.mem_singleton.1 hx]; exact e2
   split
   · exact runP_awf S hv hq picks fuel (t + 1) _ (stepP_rinv S P k f hr q1 hrt) hk2
   · exact hk2
theorem begun_rinv {S : Sys} (hv : validB S = true) : RInv S begunP := fun k hk => by
 have := ((headB_iff S).1 ((validB_iff S).1 hv).1).1
 show 0 < S.np
 omega
theorem begun_tied : Tied (stL begunP.ev) begunP := ⟨rfl, fun _ => rfl, fun _ => rfl, fun _ => rfl⟩
theorem play_run {S : Sys} (hv : validB S = true) (picks : List Int) : TOk S (playP S picks).P.ev ∧ (playP S picks).P.ev.length ≤ 40000 ∧ (stL (playP S picks).P.ev).r = (playP S picks).P.n := by
 obtain ⟨h1, h2, _, h4⟩ := runP_trace S hv picks 40001 0 begunP rfl (by omega) (begun_rinv hv) (fun i e h => by simp [begunP] at h) begun_tied
 exact ⟨h1, h2, h4⟩
theorem tok_all {S : Sys} {l : List Ev} (h : TOk S l) : OkAll S (lE l) l.length := fun j hj => by
 have h1 := h j l[j] (List.getElem?_eq_getElem hj)
 rw [stN_take l j (by omega)]
 have e : lE l j = l[j] := by simp [lE, List.getD_eq_getElem?_getD, List.getElem?_eq_getElem hj]
 rw [e]
 exact h1
theorem thr_all {S : Sys} {E : Nat → Ev} {n : Nat} (hv : validB S = true) (hn : n ≤ 40000) (h : OkAll S E n) : thr S E n = ((stN E n).r, 0, 0) := by
 unfold thr
 rw [if_pos hv, if_neg (by omega), firstBad_none h]
theorem play_thr {S : Sys} (hv : validB S = true) (picks : List Int) : thr S (lE (playP S picks).P.ev) (playP S picks).P.ev.length = (((playP S picks).P.n : Int), 0, 0) := by
 obtain ⟨h1, h2, h3⟩ := play_run hv picks
 rw [thr_all hv h2 (tok_all h1), stN_take _ _ (Nat.le_refl _), List.take_length, h3]
theorem play_awf {S : Sys} (hv : validB S = true) (hq : QWf S) (picks : List Int) : ∀ i, i < (playP S picks).P.ev.length → (Lit.int .i64 (lE (playP S picks).P.ev i).a).wf = true := fun i hi => by
 have e : lE (playP S picks).P.ev i = (playP S picks).P.ev[i] := by simp [lE, List.getD_eq_getElem?_getD, List.getElem?_eq_getElem hi]
 rw [e]
 exact runP_awf S hv hq picks 40001 0 begunP (begun_rinv hv) (fun e h => by simp [begunP] at h) _ (List.getElem_mem hi)
open Go.RowKit
def Agr (P : PW) (E : Nat → Ev) : Prop := ∀ i (h : i < P.ev.length), E i = P.ev[i]
theorem Agr.snoc {P P' : PW} {E : Nat → Ev} {e : Ev} (h : Agr P' E) (he : P'.ev = P.ev ++ [e]) : Agr P E ∧ E P.ev.length = e ∧ P'.ev.length = P.ev.length + 1 := by
 have hl : P'.ev.length = P.ev.length + 1 := by rw [he]; simp
 refine ⟨fun i hi => ?_, ?_, hl⟩
 · rw [h i (by omega)]
   simp only [he]
   rw [List.getElem_append_left hi]
 · rw [h P.ev.length (by omega)]
   simp only [he]
   rw [List.getElem_append_right (Nat.le_refl _)]
   simp
section
variable {S : Sys} {W b : Nat} {E : Nat → Ev} {rm : Int → Int} {n : Nat} {c : Int} {held : List Int}
theorem ChN.other (h : ChN held E n c) {e : Ev} (hE : E n = e) (h5 : e.op ≠ 5 ∨ e.a ≠ c) (h6 : e.op ≠ 6 ∨ e.a ≠ c ∨ e.sh = true) : ChN held E (n + 1) c ∧ pend E (n + 1) c = pend E n c := by
 have q1 : isSend E c n = false := by
   simp only [isSend, hE, Bool.and_eq_false_iff, decide_eq_false_iff_not]
   exact h5
 have q2 : isTake E c n = false := by
   simp only [isTake, hE, Bool.and_eq_false_iff, decide_eq_false_iff_not, Bool.not_eq_false']
   exact h6
 exact ⟨h.skip q1 q2, pend_skip q1 q2⟩
theorem ChN.sent (h : ChN held E n c) {e : Ev} (hE : E n = e) (h5 : e.op = 5) (ha : e.a = c) : ChN (held ++ [e.v]) E (n + 1) c ∧ pend E (n + 1) c = pend E n c ++ [n] := by
 have q1 : isSend E c n = true := by simp [isSend, hE, h5, ha]
 have q2 : isTake E c n = false := by simp [isTake, hE, h5]
 have := h.send q1 q2
 rw [hE] at this
 exact ⟨this, pend_send q1 q2 h.le⟩
theorem ChN.took {x : Int} {l : List Int} (h : ChN (x :: l) E n c) {e : Ev} (hE : E n = e) (h6 : e.op = 6) (ha : e.a = c) (hs : e.sh = false) : ∃ s, pend E n c = s :: pend E (n + 1) c ∧ (E s).v = x ∧ Bh E rm s n ∧ ChN l E (n + 1) c := by
 have q1 : isSend E c n = false := by simp [isSend, hE, h6]
 have q2 : isTake E c n = true := by simp [isTake, hE, h6, ha, hs]
 obtain ⟨s, s1, s2, s3, s4⟩ := h.take q1 q2
 refine ⟨s, s1, s2, take_edge (by rw [hE, h6]) (by rw [hE, hs]) ?_, s4⟩
 rw [hE, ha]
 exact s3
def PoolInv (S : Sys) (W b : Nat) (rm : Int → Int) (γ : Gh) (P : PW) : Prop := ∀ E, Agr P E → OkAll S E P.ev.length → ∃ tl, ChN (P.held 0) E P.ev.length 0 ∧ ChN (P.held 1) E P.ev.length 1 ∧ ChN (P.held 2) E P.ev.length 2 ∧ Tk W b (hdP W P) γ.sent E rm P.ev.length tl
theorem poolInv_start {J : Nat} : PoolInv S W b rm (gh0 W b J) begunP := fun E _ _ => by
 have hc : ∀ c, ChN [] E 0 c := fun c => ⟨Nat.le_refl _, rfl⟩
 have hd : hdP W begunP = ⟨none, false, fun _ => none, fun _ => none, fun _ => false, none⟩ := by
   simp [hdP, begunP]
 exact ⟨fun _ => .un, hc 0, hc 1, hc 2, by rw [hd]; exact Tk.start⟩
theorem nd_tail {s : Nat} {r : List Nat} {v : Nat → Int} (h : ((s :: r).map v).Nodup) : (r.map v).Nodup ∧ ∀ x ∈ r, v x ≠ v s := by
 rw [List.map_cons, List.nodup_cons] at h
 exact ⟨h.2, fun x hx e => h.1 (by rw [← e]; exact List.mem_map.2 ⟨x, hx, rfl⟩)⟩
theorem nd_snoc {r : List Nat} {v : Nat → Int} {n : Nat} (h : (r.map v).Nodup) (hn : ∀ x ∈ r, v x ≠ v n) : ((r ++ [n]).map v).Nodup := by
 rw [List.map_append, List.nodup_append]
 refine ⟨h, by simp, fun x hx y hy e => ?_⟩
 obtain ⟨s, hs, rfl⟩ := List.mem_map.1 hx
 have hy' : y = v n := by simpa using hy
 exact hn s hs (by rw [e, hy'])
theorem mod_small {k b : Nat} (h : k < b) : (k : Int) % (b : Int) = k := Int.emod_eq_of_lt (by omega) (by omega)
set_option maxHeartbeats 1000000 in
theorem poolInv_step {γ γ' : Gh} {P P' : PW} (h : PoolInv S W b rm γ P) (ht : Tr W b P γ.sent γ.fed P' γ'.sent γ'.fed) : PoolInv S W b rm γ' P' := by
 intro E hA hok
 cases ht with
 | silent e he h5 h12 h13 h15 h6 hh hc hd hs hf =>
   obtain ⟨hA', hE, hl⟩ := hA.snoc he
   rw [hl] at hok ⊢
   obtain ⟨tl, c0, c1, c2, tk⟩ := h E hA' (fun j hj => hok j (by omega))
   have o6 : ∀ c : Int, e.op ≠ 6 ∨ e.a ≠ c ∨ e.sh = true := fun c => by
     by_cases e6 : e.op = 6
     · exact .inr (.inr (h6 e6))
     · exact .inl e6
   obtain ⟨a0, b0⟩ := c0.other hE (.inl h5) (o6 0)
   obtain ⟨a1, _⟩ := c1.other hE (.inl h5) (o6 1)
   obtain ⟨a2, b2⟩ := c2.other hE (.inl h5) (o6 2)
   rw [hh, hs]
   exact ⟨tl, a0, a1, a2, tk.skip b2 b0 (by rw [hE]; exact ⟨h12, h13⟩) (by rw [hd]) (by rw [hd])⟩
 | send2f he hh hc hd hs hs' hf =>
   obtain ⟨hA', hE, hl⟩ := hA.snoc he
   rw [hl] at hok ⊢
   obtain ⟨tl, c0, c1, c2, tk⟩ := h E hA' (fun j hj => hok j (by omega))
   obtain ⟨a0, b0⟩ := c0.other hE (.inr (by simp)) (.inl (by simp))
   obtain ⟨a1, _⟩ := c1.other hE (.inr (by simp)) (.inl (by simp))
   obtain ⟨a2, b2⟩ := c2.sent hE rfl rfl
   rw [hh, hs', hd]
   refine ⟨_, ?_, ?_, ?_, tk.born (by rw [hE]) (by rw [hE]) hs b2 b0⟩
   · simpa [updN] using a0
   · simpa [updN] using a1
   · simpa [updN] using a2
 | take2 x l he hx hh hc htf hwf hd hs hf =>
   obtain ⟨hA', hE, hl⟩ := hA.snoc he
   rw [hl] at hok ⊢
   obtain ⟨tl, c0, c1, c2, tk⟩ := h E hA' (fun j hj => hok j (by omega))
   rw [hx] at c2
   obtain ⟨a0, b0⟩ := c0.other hE (.inl (by simp)) (.inr (.inl (by simp)))
   obtain ⟨a1, _⟩ := c1.other hE (.inl (by simp)) (.inr (.inl (by simp)))
   obtain ⟨s, s1, s2, s3, a2⟩ := c2.took (rm := rm) hE rfl rfl rfl
   have hsm : s ∈ pend E P.ev.length 2 := by rw [s1]; simp
   obtain ⟨k, k1, k2, k3⟩ := tk.p2 s hsm
   have hxk : x = k := by rw [← s2, k2]
   have hnd := nd_tail (by have := tk.d2; rw [s1] at this; exact this)
   rw [hh, hs]
   refine ⟨_, (by simpa [updN] using a0), (by simpa [updN] using a1), (by simpa [updN] using a2), tk.move k .fd (by simp) (by rw [k3]; simp) (fun s' hs' => .inl ⟨by rw [s1]; exact List.mem_cons_of_mem _ hs', ?_⟩) hnd.1 (fun s' hs' => .inl ⟨by rw [← b0]; exact hs', ?_⟩) (by rw [b0]; exact tk.d0) (fun y hy => .inr ?_) (fun q y hy => .inl ⟨by rw [hd] at hy; exact hy, ?_⟩) k1 (by rw [hE]; exact .inr rfl)⟩
   · rw [← k2]; exact hnd.2 s' hs'
   · rw [b0] at hs'
     obtain ⟨j, _, j2, j3⟩ := tk.p0 s' hs'
     intro e
     have : j = k := by omega
     subst this; rw [j3] at k3; cases k3
   · rw [hd] at hy
     injection hy with hy
     refine ⟨by rw [← hy, hxk], rfl, fun a ha hc => Past.here (by rw [hE]) (.inr ((tk.o2 s hsm a ha (by rw [k2]; exact hc)).trans s3))⟩
   · rw [hd] at hy
     obtain ⟨j, _, j2, j3⟩ := tk.w q y hy
     intro e
     have : j = k := by omega
     subst this; rw [j3] at k3; cases k3
 | write x he hh hc htf hwf hd hs hf =>
   obtain ⟨hA', hE, hl⟩ := hA.snoc he
   rw [hl] at hok ⊢
   obtain ⟨tl, c0, c1, c2, tk⟩ := h E hA' (fun j hj => hok j (by omega))
   obtain ⟨a0, b0⟩ := c0.other hE (.inl (by simp)) (.inl (by simp))
   obtain ⟨a1, _⟩ := c1.other hE (.inl (by simp)) (.inl (by simp))
   obtain ⟨a2, b2⟩ := c2.other hE (.inl (by simp)) (.inl (by simp))
   obtain ⟨k, k1, k2, k3⟩ := tk.f x htf
   subst k2
   rw [hh, hs]
   exact ⟨tl, a0, a1, a2, tk.touch hok k k1 (.inl ⟨k3, by rw [hE], htf⟩) (by rw [hE]; exact mod_small k1) (by rw [hE]; exact .inr rfl) b2 b0 (by rw [hd]) (by rw [hd])⟩
 | send0 x he hh hc htf hwf hd hs hf =>
   obtain ⟨hA', hE, hl⟩ := hA.snoc he
   rw [hl] at hok ⊢
   obtain ⟨tl, c0, c1, c2, tk⟩ := h E hA' (fun j hj => hok j (by omega))
   obtain ⟨a0, b0⟩ := c0.sent hE rfl rfl
   obtain ⟨a1, _⟩ := c1.other hE (.inr (by simp)) (.inl (by simp))
   obtain ⟨a2, b2⟩ := c2.other hE (.inr (by simp)) (.inl (by simp))
   obtain ⟨k, k1, k2, k3⟩ := tk.f x htf
   have ne0 : ∀ s' ∈ pend E P.ev.length 0, (E s').v ≠ k := fun s' hs' e => by
     obtain ⟨j, _, j2, j3⟩ := tk.p0 s' hs'
     have : j = k := by omega
     subst this; rw [j3] at k3; cases k3
   have hv : (E P.ev.length).v = k := by rw [hE]; exact k2
   rw [hh, hs]
   refine ⟨_, (by simpa [updN] using a0), (by simpa [updN] using a1), (by simpa [updN] using a2), tk.move k .ch0 (by simp) (by rw [k3]; simp) (fun s' hs' => .inl ⟨by rw [← b2]; exact hs', ?_⟩) (by rw [b2]; exact tk.d2) (fun s' hs' => ?_) (by rw [b0]; exact nd_snoc tk.d0 (fun y hy => by rw [hv]; exact ne0 y hy)) (fun y hy => ?_) (fun q y hy => .inl ⟨by rw [hd] at hy; exact hy, ?_⟩) k1 (by rw [hE]; exact .inl rfl)⟩
   · rw [b2] at hs'
     obtain ⟨j, _, j2, j3⟩ := tk.p2 s' hs'
     intro e
     have : j = k := by omega
     subst this; rw [j3] at k3; cases k3
   · rw [b0, List.mem_append, List.mem_singleton] at hs'
     rcases hs' with hs' | rfl
     · exact .inl ⟨hs', ne0 s' hs'⟩
     · exact .inr ⟨rfl, hv, rfl, fun a ha hc => (tk.of x htf a ha (by rw [k2]; exact hc)).bh hok (by rw [hE])⟩
   · rw [hd] at hy; cases hy
   · rw [hd] at hy
     obtain ⟨j, _, j2, j3⟩ := tk.w q y hy
     intro e
     have : j = k := by omega
     subst this; rw [j3] at k3; cases k3
 | take0 q x l hq he hx hh hc htw hjw hww hd hs hf =>
   obtain ⟨hA', hE, hl⟩ := hA.snoc he
   rw [hl] at hok ⊢
   obtain ⟨tl, c0, c1, c2, tk⟩ := h E hA' (fun j hj => hok j (by omega))
   rw [hx] at c0
   obtain ⟨a2, b2⟩ := c2.other hE (.inl (by simp)) (.inr (.inl (by simp)))
   obtain ⟨a1, _⟩ := c1.other hE (.inl (by simp)) (.inr (.inl (by simp)))
   obtain ⟨s, s1, s2, s3, a0⟩ := c0.took (rm := rm) hE rfl rfl rfl
   have hsm : s ∈ pend E P.ev.length 0 := by rw [s1]; simp
   obtain ⟨k, k1, k2, k3⟩ := tk.p0 s hsm
   have hxk : x = k := by rw [← s2, k2]
   have hnd := nd_tail (by have := tk.d0; rw [s1] at this; exact this)
   rw [hh, hs]
   refine ⟨_, (by simpa [updN] using a0), (by simpa [updN] using a1), (by simpa [updN] using a2), tk.move k (.wk q) (by simp) (by rw [k3]; simp) (fun s' hs' => .inl ⟨by rw [← b2]; exact hs', ?_⟩) (by rw [b2]; exact tk.d2) (fun s' hs' => .inl ⟨by rw [s1]; exact List.mem_cons_of_mem _ hs', ?_⟩) hnd.1 (fun y hy => .inl ⟨by rw [hd] at hy; exact hy, ?_⟩) (fun q' y hy => ?_) k1 (by rw [hE]; exact .inr rfl)⟩
   · rw [b2] at hs'
     obtain ⟨j, _, j2, j3⟩ := tk.p2 s' hs'
     intro e
     have : j = k := by omega
     subst this; rw [j3] at k3; cases k3
   · rw [← k2]; exact hnd.2 s' hs'
   · rw [hd] at hy
     obtain ⟨j, _, j2, j3⟩ := tk.f y hy
     intro e
     have : j = k := by omega
     subst this; rw [j3] at k3; cases k3
   · rw [hd] at hy
     simp only at hy
     by_cases e : q' = q
     · subst e
       rw [updN_at _ _ _ _ rfl] at hy
       injection hy with hy
       exact .inr ⟨by rw [← hy, hxk], rfl, fun a ha hc => Past.here (by rw [hE]) (.inr ((tk.o0 s hsm a ha (by rw [k2]; exact hc)).trans s3))⟩
     · rw [updN_ne _ _ _ _ e] at hy
       refine .inl ⟨hy, fun e' => ?_⟩
       obtain ⟨j, _, j2, j3⟩ := tk.w q' y hy
       have : j = k := by omega
       subst this; rw [j3] at k3; cases k3
 | read q x hq he hh hc htw hjw hww hd hs hf =>
   obtain ⟨hA', hE, hl⟩ := hA.snoc he
   rw [hl] at hok ⊢
   obtain ⟨tl, c0, c1, c2, tk⟩ := h E hA' (fun j hj => hok j (by omega))
   obtain ⟨a0, b0⟩ := c0.other hE (.inl (by simp)) (.inl (by simp))
   obtain ⟨a1, _⟩ := c1.other hE (.inl (by simp)) (.inl (by simp))
   obtain ⟨a2, b2⟩ := c2.other hE (.inl (by simp)) (.inl (by simp))
   obtain ⟨k, k1, k2, k3⟩ := tk.w q x htw
   subst k2
   rw [hh, hs]
   exact ⟨tl, a0, a1, a2, tk.touch hok k k1 (.inr ⟨q, k3, by rw [hE], htw⟩) (by rw [hE]; exact mod_small k1) (by rw [hE]; exact .inl rfl) b2 b0 (by rw [hd]) (by rw [hd])⟩
 | work q x y hq he hh hc htw hjw hww hd hs hf =>
   obtain ⟨hA', hE, hl⟩ := hA.snoc he
   rw [hl] at hok ⊢
   obtain ⟨tl, c0, c1, c2, tk⟩ := h E hA' (fun j hj => hok j (by omega))
   obtain ⟨a0, b0⟩ := c0.other hE (.inl (by simp)) (.inl (by simp))
   obtain ⟨a1, _⟩ := c1.other hE (.inl (by simp)) (.inl (by simp))
   obtain ⟨a2, b2⟩ := c2.other hE (.inl (by simp)) (.inl (by simp))
   rw [hh, hs]
   exact ⟨tl, a0, a1, a2, tk.skip b2 b0 (by rw [hE]; simp) (by rw [hd]) (by rw [hd])⟩
 | send2w q x y hq he hh hc htw hjw hww hd hs hf =>
   obtain ⟨hA', hE, hl⟩ := hA.snoc he
   rw [hl] at hok ⊢
   obtain ⟨tl, c0, c1, c2, tk⟩ := h E hA' (fun j hj => hok j (by omega))
   obtain ⟨a2, b2⟩ := c2.sent hE rfl rfl
   obtain ⟨a1, _⟩ := c1.other hE (.inr (by simp)) (.inl (by simp))
   obtain ⟨a0, b0⟩ := c0.other hE (.inr (by simp)) (.inl (by simp))
   obtain ⟨k, k1, k2, k3⟩ := tk.w q x htw
   have ne2 : ∀ s' ∈ pend E P.ev.length 2, (E s').v ≠ k := fun s' hs' e => by
     obtain ⟨j, _, j2, j3⟩ := tk.p2 s' hs'
     have : j = k := by omega
     subst this; rw [j3] at k3; cases k3
   have hv : (E P.ev.length).v = k := by rw [hE]; exact k2
   rw [hh, hs]
   refine ⟨_, (by simpa [updN] using a0), (by simpa [updN] using a1), (by simpa [updN] using a2), tk.move k .ch2 (by simp) (by rw [k3]; simp) (fun s' hs' => ?_) (by rw [b2]; exact nd_snoc tk.d2 (fun y hy => by rw [hv]; exact ne2 y hy)) (fun s' hs' => .inl ⟨by rw [← b0]; exact hs', ?_⟩) (by rw [b0]; exact tk.d0) (fun y hy => .inl ⟨by rw [hd] at hy; exact hy, ?_⟩) (fun q' y hy => ?_) k1 (by rw [hE]; exact .inl rfl)⟩
   · rw [b2, List.mem_append, List.mem_singleton] at hs'
     rcases hs' with hs' | rfl
     · exact .inl ⟨hs', ne2 s' hs'⟩
     · exact .inr ⟨rfl, hv, rfl, fun a ha hc => (tk.ow q x htw a ha (by rw [k2]; exact hc)).bh hok (by rw [hE])⟩
   · rw [b0] at hs'
     obtain ⟨j, _, j2, j3⟩ := tk.p0 s' hs'
     intro e
     have : j = k := by omega
     subst this; rw [j3] at k3; cases k3
   · rw [hd] at hy
     obtain ⟨j, _, j2, j3⟩ := tk.f y hy
     intro e
     have : j = k := by omega
     subst this; rw [j3] at k3; cases k3
   · rw [hd] at hy
     simp only at hy
     by_cases e : q' = q
     · subst e
       rw [updN_at _ _ _ _ rfl] at hy
       cases hy
     · rw [updN_ne _ _ _ _ e] at hy
       refine .inl ⟨hy, fun e' => ?_⟩
       obtain ⟨j, _, j2, j3⟩ := tk.w q' y hy
       have : j = k := by omega
       subst this; rw [j3] at k3; cases k3; exact e rfl
 | send1 q y hq he hh hc htw hjw hww hd hs hf =>
   obtain ⟨hA', hE, hl⟩ := hA.snoc he
   rw [hl] at hok ⊢
   obtain ⟨tl, c0, c1, c2, tk⟩ := h E hA' (fun j hj => hok j (by omega))
   obtain ⟨a0, b0⟩ := c0.other hE (.inr (by simp)) (.inl (by simp))
   obtain ⟨a1, _⟩ := c1.sent hE rfl rfl
   obtain ⟨a2, b2⟩ := c2.other hE (.inr (by simp)) (.inl (by simp))
   rw [hh, hs]
   exact ⟨tl, (by simpa [updN] using a0), (by simpa [updN] using a1), (by simpa [updN] using a2), tk.skip b2 b0 (by rw [hE]; simp) (by rw [hd]) (by rw [hd])⟩
 | take1 y l he hx hh hc hjc hd hs hf =>
   obtain ⟨hA', hE, hl⟩ := hA.snoc he
   rw [hl] at hok ⊢
   obtain ⟨tl, c0, c1, c2, tk⟩ := h E hA' (fun j hj => hok j (by omega))
   rw [hx] at c1
   obtain ⟨a0, b0⟩ := c0.other hE (.inl (by simp)) (.inr (.inl (by simp)))
   obtain ⟨s, _, _, _, a1⟩ := c1.took (rm := rm) hE rfl rfl rfl
   obtain ⟨a2, b2⟩ := c2.other hE (.inl (by simp)) (.inr (.inl (by simp)))
   rw [hh, hs]
   exact ⟨tl, (by simpa [updN] using a0), (by simpa [updN] using a1), (by simpa [updN] using a2), tk.skip b2 b0 (by rw [hE]; simp) (by rw [hd]) (by rw [hd])⟩
 | workc y he hh hc hjc hd hs hf =>
   obtain ⟨hA', hE, hl⟩ := hA.snoc he
   rw [hl] at hok ⊢
   obtain ⟨tl, c0, c1, c2, tk⟩ := h E hA' (fun j hj => hok j (by omega))
   obtain ⟨a0, b0⟩ := c0.other hE (.inl (by simp)) (.inl (by simp))
   obtain ⟨a1, _⟩ := c1.other hE (.inl (by simp)) (.inl (by simp))
   obtain ⟨a2, b2⟩ := c2.other hE (.inl (by simp)) (.inl (by simp))
   rw [hh, hs]
   exact ⟨tl, a0, a1, a2, tk.skip b2 b0 (by rw [hE]; simp) (by rw [hd]) (by rw [hd])⟩
end
section
variable {W Q b J : Nat}
theorem lE_agr (P : PW) : Agr P (lE P.ev) := fun i h => by simp [lE, List.getD_eq_getElem?_getD, List.getElem?_eq_getElem h]
end
open Go.RowKit
inductive JLoc where
 | todo
 | buf (k : Nat)
 | hand (q : Nat)
 | ch1
 | cb
 | done
def Wk (E : Nat → Ev) (a : Nat) (which : Int) (j : Nat) : Prop := (E a).op = 15 ∧ (E a).a = which ∧ (E a).v = j
structure Jb (W : Nat) (hd : Hd) (fed : Nat) (ce : Int → Int) (E : Nat → Ev) (rm : Int → Int) (n : Nat) (jl : Nat → JLoc) (hh : Nat → Nat) : Prop where
 fd : hd.wf = true → ∃ k : Nat, hd.tf = some (k : Int) ∧ ce k = fed ∧ jl fed = .buf k
 b0 : ∀ s ∈ pend E n 0, ∀ k : Nat, (E s).v = k → ∃ j : Nat, ce k = j ∧ jl j = .buf k
 tw : ∀ q (k : Nat), hd.tw q = some (k : Int) → hd.jw q = none → ∃ j : Nat, ce k = j ∧ jl j = .buf k
 jw : ∀ q y, hd.jw q = some y → ∃ j : Nat, y = j ∧ jl j = .hand q
 b1 : ∀ s ∈ pend E n 1, ∃ j : Nat, (E s).v = j ∧ jl j = .ch1
 d1 : ((pend E n 1).map fun i => (E i).v).Nodup
 jc : ∀ y, hd.jc = some y → ∃ j : Nat, y = j ∧ jl j = .cb
 td : ∀ j, fed < j ∨ (j = fed ∧ hd.wf = false) → jl j = .todo
 ctd : ∀ j, jl j = .todo → fed ≤ j
 cbuf : ∀ j k, jl j = .buf k → (∃ s ∈ pend E n 0, (E s).v = k) ∨ (hd.wf = true ∧ hd.tf = some (k : Int)) ∨ ∃ q, q < W ∧ hd.tw q = some (k : Int) ∧ hd.jw q = none
 cce : ∀ j k, jl j = .buf k → ce k = (j : Int)
 chand : ∀ j q, jl j = .hand q → q < W ∧ hd.jw q = some (j : Int)
 cch1 : ∀ j, jl j = .ch1 → ∃ s ∈ pend E n 1, (E s).v = j
 ccb : ∀ j, jl j = .cb → hd.jc = some (j : Int)
 n0 : ∀ j, (jl j = .todo ∨ (∃ k, jl j = .buf k) ∨ ∃ q, jl j = .hand q ∧ hd.ww q = false) → ∀ a, a < n → ¬ Wk E a 0 j
 n1 : ∀ j, jl j ≠ .done → ∀ a, a < n → ¬ Wk E a 1 j
 u0 : ∀ j, ((∃ q, jl j = .hand q ∧ hd.ww q = true) ∨ jl j = .ch1 ∨ jl j = .cb ∨ jl j = .done) → hh j < n ∧ Wk E (hh j) 0 j ∧ ∀ a, a < n → Wk E a 0 j → a = hh j
 ph : ∀ j q, jl j = .hand q → hd.ww q = true → Past E rm n (hh j) ((q : Int) + 1)
 p1 : ∀ s ∈ pend E n 1, ∀ j : Nat, (E s).v = j → Bh E rm (hh j) s
 pc : ∀ j, jl j = .cb → Past E rm n (hh j) 0
 dn : ∀ j, jl j = .done → ∃ f, f < n ∧ Wk E f 1 j ∧ (∀ a, a < n → Wk E a 1 j → a = f) ∧ Bh E rm (hh j) f
section
variable {S : Sys} {W b : Nat} {hd hd' : Hd} {fed : Nat} {ce ce' : Int → Int} {E : Nat → Ev} {rm : Int → Int} {n : Nat} {jl : Nat → JLoc} {hh : Nat → Nat} {tl : Nat → Loc}
theorem wk_old (hop : (E n).op ≠ 15) {a : Nat} {w : Int} {j : Nat} (ha : a < n + 1) (h : Wk E a w j) : a < n := by
 by_cases e : a = n
 · subst e; exact absurd h.1 hop
 · omega
theorem Jb.start : Jb W ⟨none, false, fun _ => none, fun _ => none, fun _ => false, none⟩ 0 ce E rm 0 (fun _ => .todo) hh := by
 have hp : ∀ c, pend E 0 c = [] := fun c => rfl
 constructor
 · intro h; cases h
 · intro s h; rw [hp] at h; simp at h
 · intro q k h; cases h
 · intro q y h; cases h
 · intro s h; rw [hp] at h; simp at h
 · rw [hp]; simp
 · intro y h; cases h
 · intro j _; rfl
 · intro j _; omega
 · intro j k h; cases h
 · intro j k h; cases h
 · intro j q h; cases h
 · intro j h; cases h
 · intro j h; cases h
 · intro j _ a ha; omega
 · intro j _ a ha; omega
 · rintro j (⟨q, h, _⟩ | h | h | h) <;> cases h
 · intro j q h; cases h
 · intro s h; rw [hp] at h; simp at h
 · intro j h; cases h
 · intro j h; cases h
theorem Jb.frame (h : Jb W hd fed ce E rm n jl hh) (hop : (E n).op ≠ 15) (h0 : pend E (n + 1) 0 = pend E n 0) (h1 : pend E (n + 1) 1 = pend E n 1) (hwf : hd'.wf = hd.wf) (htf : hd.wf = true → hd'.tf = hd.tf) (htw : ∀ q, hd.jw q = none → hd'.tw q = hd.tw q) (hjw : hd'.jw = hd.jw) (hww : hd'.ww = hd.ww) (hjc : hd'.jc = hd.jc) : Jb W hd' fed ce E rm (n + 1) jl hh := by
 refine ⟨fun hw => ?_, by rw [h0]; exact h.b0, fun q k hk hn => ?_, by rw [hjw]; exact h.jw, by rw [h1]; exact h.b1, by rw [h1]; exact h.d1, by rw [hjc]; exact h.jc, by rw [hwf]; exact h.td, h.ctd, fun j k hk => ?_, h.cce, by rw [hjw]; exact h.chand, by rw [h1]; exact h.cch1, by rw [hjc]; exact h.ccb, fun j hj a ha hk => ?_, fun j hj a ha hk => h.n1 j hj a (wk_old hop ha hk) hk, fun j hj => ?_, fun j q hq hw => ?_, by rw [h1]; exact h.p1, fun j hj => (h.pc j hj).succ, fun j hj => ?_⟩
 · rw [hwf] at hw; rw [htf hw]; exact h.fd hw
 · rw [hjw] at hn; rw [htw q hn] at hk; exact h.tw q k hk hn
 · rw [h0]
   rcases h.cbuf j k hk with a | ⟨a1, a2⟩ | ⟨q, q1, q2, q3⟩
   · exact .inl a
   · exact .inr (.inl ⟨by rw [hwf]; exact a1, by rw [htf a1]; exact a2⟩)
   · exact .inr (.inr ⟨q, q1, by rw [htw q q3]; exact q2, by rw [hjw]; exact q3⟩)
 · rw [hww] at hj; exact h.n0 j hj a (wk_old hop ha hk) hk
 · rw [hww] at hj
   obtain ⟨a1, a2, a3⟩ := h.u0 j hj
   exact ⟨by omega, a2, fun a ha hk => a3 a (wk_old hop ha hk) hk⟩
 · rw [hww] at hw; exact (h.ph j q hq hw).succ
 · obtain ⟨f, f1, f2, f3, f4⟩ := h.dn j hj
   exact ⟨f, by omega, f2, fun a ha hk => f3 a (wk_old hop ha hk) hk, f4⟩
theorem jne {j j' : Nat} {x y : JLoc} (h : jl j = x) (h' : jl j' = y) (hxy : x ≠ y) : j ≠ j' := fun e => by subst e; rw [h] at h'; exact hxy h'
theorem Jb.write (h : Jb W hd fed ce E rm n jl hh) {sent : Nat} (tk : Tk W b hd sent E rm n tl) (k : Nat) (hk : hd.tf = some (k : Int)) (hwf : hd.wf = false) (hop : (E n).op ≠ 15) (h0 : pend E (n + 1) 0 = pend E n 0) (h1 : pend E (n + 1) 1 = pend E n 1) : Jb W { hd with wf := true } fed (updI ce (k : Int) fed) E rm (n + 1) (updN jl fed (.buf k)) hh := by
 have hf := h.td fed (.inr ⟨rfl, hwf⟩)
 have same : ∀ j, jl j ≠ .todo → updN jl fed (.buf k) j = jl j := fun j hj => updN_ne _ _ _ _ (fun e => by subst e; exact hj hf)
 have oth : ∀ j, j ≠ fed → updN jl fed (.buf k) j = jl j := fun j hj => updN_ne _ _ _ _ hj
 have at_ : updN jl fed (.buf k) fed = .buf k := updN_at _ _ _ _ rfl
 obtain ⟨k', _, e, tf⟩ := tk.f _ hk
 obtain rfl : k = k' := by omega
 have nf : ∀ {j : Nat} {x : JLoc}, updN jl fed (.buf k) j = x → x ≠ .buf k → j ≠ fed ∧ jl j = x := fun {j x} hx hne => by
   have hj : j ≠ fed := fun e => by subst e; rw [at_] at hx; exact hne hx.symm
   exact ⟨hj, by rw [oth j hj] at hx; exact hx⟩
 refine ⟨fun _ => ⟨k, hk, updI_same _ _ _, at_⟩, fun s hs x hx => ?_, fun q x hx hn => ?_, fun q y hy => ?_, fun s hs => ?_, by rw [h1]; exact h.d1, fun y hy => ?_, fun j hj => ?_, fun j hj => h.ctd j (nf hj (by simp)).2, fun j x hx => ?_, fun j x hx => ?_, fun j q hq => h.chand j q (nf hq (by simp)).2, fun j hj => by rw [h1]; exact h.cch1 j (nf hj (by simp)).2, fun j hj => h.ccb j (nf hj (by simp)).2, fun j hj a ha hw => ?_, fun j hj a ha hw => ?_, fun j hj => ?_, fun j q hq hw => (h.ph j q (nf hq (by simp)).2 hw).succ, fun s hs j hj => h.p1 s (by rw [← h1]; exact hs) j hj, fun j hj => (h.pc j (nf hj (by simp)).2).succ, fun j hj => ?_⟩
 · rw [h0] at hs
   obtain ⟨j, j1, j2⟩ := h.b0 s hs x hx
   have hxk : x ≠ k := fun e => by
     subst e
     obtain ⟨m, _, m2, m3⟩ := tk.p0 s hs
     have : m = x := by omega
     subst this; rw [m3] at tf; cases tf
   exact ⟨j, by rw [updI_other _ _ _ _ (by omega)]; exact j1, by rw [same j (by rw [j2]; simp)]; exact j2⟩
 · obtain ⟨j, j1, j2⟩ := h.tw q x hx hn
   have hxk : x ≠ k := fun e => by
     subst e
     obtain ⟨m, _, m2, m3⟩ := tk.w q _ hx
     have : m = x := by omega
     subst this; rw [m3] at tf; cases tf
   exact ⟨j, by rw [updI_other _ _ _ _ (by omega)]; exact j1, by rw [same j (by rw [j2]; simp)]; exact j2⟩
 · obtain ⟨j, j1, j2⟩ := h.jw q y hy
   exact ⟨j, j1, by rw [same j (by rw [j2]; simp)]; exact j2⟩
 · rw [h1] at hs
   obtain ⟨j, j1, j2⟩ := h.b1 s hs
   exact ⟨j, j1, by rw [same j (by rw [j2]; simp)]; exact j2⟩
 · obtain ⟨j, j1, j2⟩ := h.jc y hy
   exact ⟨j, j1, by rw [same j (by rw [j2]; simp)]; exact j2⟩
 · rcases hj with hj | ⟨_, hj⟩
   · rw [oth j (by omega)]; exact h.td j (.inl hj)
   · cases hj
 · by_cases e : j = fed
   · subst e
     rw [at_] at hx
     injection hx with hx
     exact .inr (.inl ⟨rfl, by rw [← hx]; exact hk⟩)
   · rw [oth j e] at hx
     rcases h.cbuf j x hx with a | ⟨a1, _⟩ | ⟨q, q1, q2, q3⟩
     · exact .inl (by rw [h0]; exact a)
     · rw [hwf] at a1; cases a1
     · exact .inr (.inr ⟨q, q1, q2, q3⟩)
 · by_cases e : j = fed
   · subst e
     rw [at_] at hx
     injection hx with hx
     rw [← hx]; exact updI_same _ _ _
   · rw [oth j e] at hx
     have hxk : x ≠ k := fun e => by
       subst e
       rcases h.cbuf j x hx with ⟨s, s1, s2⟩ | ⟨a1, _⟩ | ⟨q, q1, q2, q3⟩
       · obtain ⟨m, _, m2, m3⟩ := tk.p0 s s1
         have : m = x := by omega
         subst this; rw [m3] at tf; cases tf
       · rw [hwf] at a1; cases a1
       · obtain ⟨m, _, m2, m3⟩ := tk.w q _ q2
         have : m = x := by omega
         subst this; rw [m3] at tf; cases tf
     rw [updI_other _ _ _ _ (by omega)]; exact h.cce j x hx
 · refine h.n0 j ?_ a (wk_old hop ha hw) hw
   by_cases e : j = fed
   · subst e; exact .inl hf
   · rw [oth j e] at hj; exact hj
 · refine h.n1 j (fun e => hj ?_) a (wk_old hop ha hw) hw
   rw [same j (by rw [e]; simp)]; exact e
 · have hj' : (∃ q, jl j = .hand q ∧ hd.ww q = true) ∨ jl j = .ch1 ∨ jl j = .cb ∨ jl j = .done := by
     rcases hj with ⟨q, h1, h2⟩ | h1 | h1 | h1
     · exact .inl ⟨q, (nf h1 (by simp)).2, h2⟩
     · exact .inr (.inl (nf h1 (by simp)).2)
     · exact .inr (.inr (.inl (nf h1 (by simp)).2))
     · exact .inr (.inr (.inr (nf h1 (by simp)).2))
   obtain ⟨a1, a2, a3⟩ := h.u0 j hj'
   exact ⟨by omega, a2, fun a ha hk => a3 a (wk_old hop ha hk) hk⟩
 · obtain ⟨f, f1, f2, f3, f4⟩ := h.dn j (nf hj (by simp)).2
   exact ⟨f, by omega, f2, fun a ha hk => f3 a (wk_old hop ha hk) hk, f4⟩
theorem Jb.send0 (h : Jb W hd fed ce E rm n jl hh) (k : Nat) (hk : hd.tf = some (k : Int)) (hwf : hd.wf = true) (hop : (E n).op ≠ 15) (hv : (E n).v = k) (h0 : pend E (n + 1) 0 = pend E n 0 ++ [n]) (h1 : pend E (n + 1) 1 = pend E n 1) : Jb W { hd with tf := none, wf := false } (fed + 1) ce E rm (n + 1) jl hh := by
 obtain ⟨k', e1, e2, e3⟩ := h.fd hwf
 obtain rfl : k = k' := by rw [hk] at e1; injection e1 with e1; omega
 refine ⟨fun hw => (by cases hw), fun s hs x hx => ?_, h.tw, h.jw, by rw [h1]; exact h.b1, by rw [h1]; exact h.d1, h.jc, fun j hj => h.td j (.inl (by omega)), fun j hj => ?_, fun j x hx => ?_, h.cce, h.chand, by rw [h1]; exact h.cch1, h.ccb, fun j hj a ha hw => h.n0 j hj a (wk_old hop ha hw) hw, fun j hj a ha hw => h.n1 j hj a (wk_old hop ha hw) hw, fun j hj => ?_, fun j q hq hw => (h.ph j q hq hw).succ, by rw [h1]; exact h.p1, fun j hj => (h.pc j hj).succ, fun j hj => ?_⟩
 · rw [h0, List.mem_append, List.mem_singleton] at hs
   rcases hs with hs | rfl
   · exact h.b0 s hs x hx
   · obtain rfl : x = k := by omega
     exact ⟨fed, e2, e3⟩
 · have a1 := h.ctd j hj
   have a2 : j ≠ fed := fun e => by subst e; rw [e3] at hj; cases hj
   omega
 · rcases h.cbuf j x hx with ⟨s, s1, s2⟩ | ⟨_, a2⟩ | a
   · exact .inl ⟨s, by rw [h0]; exact List.mem_append_left _ s1, s2⟩
   · rw [hk] at a2
     injection a2 with a2
     exact .inl ⟨n, by rw [h0]; simp, by rw [hv, a2]⟩
   · exact .inr (.inr a)
 · obtain ⟨a1, a2, a3⟩ := h.u0 j hj
   exact ⟨by omega, a2, fun a ha hk => a3 a (wk_old hop ha hk) hk⟩
 · obtain ⟨f, f1, f2, f3, f4⟩ := h.dn j hj
   exact ⟨f, by omega, f2, fun a ha hk => f3 a (wk_old hop ha hk) hk, f4⟩
theorem Jb.take0 (h : Jb W hd fed ce E rm n jl hh) (q k s : Nat) (hq : q < W) (hjw : hd.jw q = none) (htw : hd.tw q = none) (hop : (E n).op ≠ 15) (h0 : pend E n 0 = s :: pend E (n + 1) 0) (hs : (E s).v = k) (h1 : pend E (n + 1) 1 = pend E n 1) : Jb W { hd with tw := updN hd.tw q (some (k : Int)) } fed ce E rm (n + 1) jl hh := by
 have sub : ∀ x ∈ pend E (n + 1) 0, x ∈ pend E n 0 := fun x hx => by rw [h0]; exact List.mem_cons_of_mem _ hx
 refine ⟨h.fd, fun x hx => h.b0 x (sub x hx), fun r x hx hn => ?_, h.jw, by rw [h1]; exact h.b1, by rw [h1]; exact h.d1, h.jc, h.td, h.ctd, fun j x hx => ?_, h.cce, h.chand, by rw [h1]; exact h.cch1, h.ccb, fun j hj a ha hw => h.n0 j hj a (wk_old hop ha hw) hw, fun j hj a ha hw => h.n1 j hj a (wk_old hop ha hw) hw, fun j hj => ?_, fun j q hq hw => (h.ph j q hq hw).succ, by rw [h1]; exact h.p1, fun j hj => (h.pc j hj).succ, fun j hj => ?_⟩
 · by_cases e : r = q
   · subst e
     simp only [updN_at _ _ _ _ rfl] at hx
     injection hx with hx
     obtain rfl : k = x := by omega
     exact h.b0 s (by rw [h0]; simp) k hs
   · simp only [updN_ne _ _ _ _ e] at hx
     exact h.tw r x hx hn
 · rcases h.cbuf j x hx with ⟨y, y1, y2⟩ | a | ⟨r, r1, r2, r3⟩
   · rw [h0, List.mem_cons] at y1
     rcases y1 with rfl | y1
     · refine .inr (.inr ⟨q, hq, ?_, hjw⟩)
       simp only [updN_at _ _ _ _ rfl]
       rw [← y2, hs]
     · exact .inl ⟨y, y1, y2⟩
   · exact .inr (.inl a)
   · refine .inr (.inr ⟨r, r1, ?_, r3⟩)
     have e : r ≠ q := fun e => by subst e; rw [htw] at r2; cases r2
     simp only [updN_ne _ _ _ _ e]
     exact r2
 · obtain ⟨a1, a2, a3⟩ := h.u0 j hj
   exact ⟨by omega, a2, fun a ha hk => a3 a (wk_old hop ha hk) hk⟩
 · obtain ⟨f, f1, f2, f3, f4⟩ := h.dn j hj
   exact ⟨f, by omega, f2, fun a ha hk => f3 a (wk_old hop ha hk) hk, f4⟩
theorem Jb.read (h : Jb W hd fed ce E rm n jl hh) {sent : Nat} (tk : Tk W b hd sent E rm n tl) (q k : Nat) (hq : q < W) (hjw : hd.jw q = none) (htw : hd.tw q = some (k : Int)) (hww : hd.ww q = false) (hop : (E n).op ≠ 15) (h0 : pend E (n + 1) 0 = pend E n 0) (h1 : pend E (n + 1) 1 = pend E n 1) : ∃ j : Nat, ce k = j ∧ Jb W { hd with jw := updN hd.jw q (some (ce k)) } fed ce E rm (n + 1) (updN jl j (.hand q)) hh := by
 obtain ⟨j0, e0, e1⟩ := h.tw q k htw hjw
 refine ⟨j0, e0, ?_⟩
 obtain ⟨k', _, e, tf⟩ := tk.w q _ htw
 obtain rfl : k = k' := by omega
 have at_ : updN jl j0 (.hand q) j0 = .hand q := updN_at _ _ _ _ rfl
 have oth : ∀ j, j ≠ j0 → updN jl j0 (.hand q) j = jl j := fun j hj => updN_ne _ _ _ _ hj
 have same : ∀ j, jl j ≠ .buf k → updN jl j0 (.hand q) j = jl j := fun j hj => oth j (fun e => by subst e; exact hj e1)
 have nf : ∀ {j : Nat} {x : JLoc}, updN jl j0 (.hand q) j = x → x ≠ .hand q → j ≠ j0 ∧ jl j = x := fun {j x} hx hne => by
   have hj : j ≠ j0 := fun e => by subst e; rw [at_] at hx; exact hne hx.symm
   exact ⟨hj, by rw [oth j hj] at hx; exact hx⟩
 have noh : ∀ j, jl j ≠ .hand q := fun j hj => by have := (h.chand j q hj).2; rw [hjw] at this; cases this
 refine ⟨fun hw => ?_, fun s hs x hx => ?_, fun r x hx hn => ?_, fun r y hy => ?_, fun s hs => ?_, by rw [h1]; exact h.d1, fun y hy => ?_, fun j hj => ?_, fun j hj => h.ctd j (nf hj (by simp)).2, fun j x hx => ?_, fun j x hx => h.cce j x (nf hx (by simp)).2, fun j r hr => ?_, fun j hj => by rw [h1]; exact h.cch1 j (nf hj (by simp)).2, fun j hj => h.ccb j (nf hj (by simp)).2, fun j hj a ha hw => ?_, fun j hj a ha hw => ?_, fun j hj => ?_, fun j r hr hw => ?_, fun s hs j hj => h.p1 s (by rw [← h1]; exact hs) j hj, fun j hj => (h.pc j (nf hj (by simp)).2).succ, fun j hj => ?_⟩
 · obtain ⟨x, x1, x2, x3⟩ := h.fd hw
   have hxk : x ≠ k := fun e => by
     subst e
     obtain ⟨m, _, m2, m3⟩ := tk.f _ x1
     have : m = x := by omega
     subst this; rw [m3] at tf; cases tf
   exact ⟨x, x1, x2, by rw [same fed (by rw [x3]; simpa using hxk)]; exact x3⟩
 · rw [h0] at hs
   obtain ⟨j, j1, j2⟩ := h.b0 s hs x hx
   have hxk : x ≠ k := fun e => by
     subst e
     obtain ⟨m, _, m2, m3⟩ := tk.p0 s hs
     have : m = x := by omega
     subst this; rw [m3] at tf; cases tf
   exact ⟨j, j1, by rw [same j (by rw [j2]; simpa using hxk)]; exact j2⟩
 · have hr : r ≠ q := fun e => by subst e; simp only [updN_at _ _ _ _ rfl] at hn; cases hn
   simp only [updN_ne _ _ _ _ hr] at hn
   obtain ⟨j, j1, j2⟩ := h.tw r x hx hn
   have hxk : x ≠ k := fun e => by
     subst e
     obtain ⟨m, _, m2, m3⟩ := tk.w r _ hx
     have : m = x := by omega
     subst this; rw [m3] at tf; cases tf; exact hr rfl
   exact ⟨j, j1, by rw [same j (by rw [j2]; simpa using hxk)]; exact j2⟩
 · by_cases e : r = q
   · subst e
     simp only [updN_at _ _ _ _ rfl] at hy
     injection hy with hy
     exact ⟨j0, by rw [← hy, e0], at_⟩
   · simp only [updN_ne _ _ _ _ e] at hy
     obtain ⟨j, j1, j2⟩ := h.jw r y hy
     exact ⟨j, j1, by rw [same j (by rw [j2]; simp)]; exact j2⟩
 · rw [h1] at hs
   obtain ⟨j, j1, j2⟩ := h.b1 s hs
   exact ⟨j, j1, by rw [same j (by rw [j2]; simp)]; exact j2⟩
 · obtain ⟨j, j1, j2⟩ := h.jc y hy
   exact ⟨j, j1, by rw [same j (by rw [j2]; simp)]; exact j2⟩
 · have := h.td j hj
   rw [same j (by rw [this]; simp)]; exact this
 · obtain ⟨hj, hx'⟩ := nf hx (by simp)
   rcases h.cbuf j x hx' with a | a | ⟨r, r1, r2, r3⟩
   · exact .inl (by rw [h0]; exact a)
   · exact .inr (.inl a)
   · have hr : r ≠ q := fun e => by
       subst e
       rw [htw] at r2
       injection r2 with r2
       obtain rfl : k = x := by omega
       have a1 := h.cce j k hx'
       omega
     refine .inr (.inr ⟨r, r1, r2, ?_⟩)
     simp only [updN_ne _ _ _ _ hr]
     exact r3
 · by_cases e : j = j0
   · subst e
     rw [at_] at hr
     injection hr with hr
     subst hr
     exact ⟨hq, by simp only [updN_at _ _ _ _ rfl]; rw [e0]⟩
   · rw [oth j e] at hr
     obtain ⟨r1, r2⟩ := h.chand j r hr
     have e' : r ≠ q := fun e' => by subst e'; exact noh j hr
     exact ⟨r1, by simp only [updN_ne _ _ _ _ e']; exact r2⟩
 · refine h.n0 j ?_ a (wk_old hop ha hw) hw
   by_cases e : j = j0
   · subst e; exact .inr (.inl ⟨k, e1⟩)
   · rw [oth j e] at hj; exact hj
 · refine h.n1 j (fun e => hj ?_) a (wk_old hop ha hw) hw
   rw [same j (by rw [e]; simp)]; exact e
 · have hj' : (∃ q, jl j = .hand q ∧ hd.ww q = true) ∨ jl j = .ch1 ∨ jl j = .cb ∨ jl j = .done := by
     rcases hj with ⟨r, r1, r2⟩ | r1 | r1 | r1
     · have r2' : hd.ww r = true := r2
       have e' : JLoc.hand r ≠ .hand q := fun e' => by injection e' with e'; subst e'; rw [hww] at r2'; cases r2'
       exact .inl ⟨r, (nf r1 e').2, r2'⟩
     · exact .inr (.inl (nf r1 (by simp)).2)
     · exact .inr (.inr (.inl (nf r1 (by simp)).2))
     · exact .inr (.inr (.inr (nf r1 (by simp)).2))
   obtain ⟨a1, a2, a3⟩ := h.u0 j hj'
   exact ⟨by omega, a2, fun a ha hk => a3 a (wk_old hop ha hk) hk⟩
 · have r2' : hd.ww r = true := hw
   have e' : JLoc.hand r ≠ .hand q := fun e' => by injection e' with e'; subst e'; rw [hww] at r2'; cases r2'
   exact (h.ph j r (nf hr e').2 r2').succ
 · obtain ⟨f, f1, f2, f3, f4⟩ := h.dn j (nf hj (by simp)).2
   exact ⟨f, by omega, f2, fun a ha hk => f3 a (wk_old hop ha hk) hk, f4⟩
end
open Go.RowKit
section
variable {S : Sys} {W b : Nat} {hd hd' : Hd} {fed : Nat} {ce ce' : Int → Int} {E : Nat → Ev} {rm : Int → Int} {n : Nat} {jl : Nat → JLoc} {hh : Nat → Nat} {tl : Nat → Loc}
theorem wk_at {w : Int} {j : Nat} {w' : Int} {j' : Nat} (ha : (E n).a = w) (hv : (E n).v = j) (h : Wk E n w' j') : w' = w ∧ j' = j := by
 obtain ⟨_, h2, h3⟩ := h
 exact ⟨by rw [← h2, ha], by omega⟩
theorem Jb.work (h : Jb W hd fed ce E rm n jl hh) (q : Nat) (y : Int) (hjw : hd.jw q = some y) (hww : hd.ww q = false) (hop : (E n).op = 15) (ha : (E n).a = 0) (hv : (E n).v = y) (hwho : (E n).who = (q : Int) + 1) (h0 : pend E (n + 1) 0 = pend E n 0) (h1 : pend E (n + 1) 1 = pend E n 1) : ∃ hh', Jb W { hd with ww := updN hd.ww q true } fed ce E rm (n + 1) jl hh' := by
 obtain ⟨j, rfl, hj⟩ := h.jw q y hjw
 refine ⟨updN hh j n, ?_⟩
 have no0 := h.n0 j (.inr (.inr ⟨q, hj, hww⟩))
 have oth : ∀ i, i ≠ j → updN hh j n i = hh i := fun i hi => updN_ne _ _ _ _ hi
 have at_ : updN hh j n j = n := updN_at _ _ _ _ rfl
 have old : ∀ {a : Nat} {w : Int} {i : Nat}, a < n + 1 → Wk E a w i → (a < n) ∨ (a = n ∧ w = 0 ∧ i = j) := fun {a w i} ha' hk => by
   by_cases e : a = n
   · subst e; exact .inr ⟨rfl, wk_at ha hv hk⟩
   · exact .inl (by omega)
 refine ⟨h.fd, by rw [h0]; exact h.b0, h.tw, h.jw, by rw [h1]; exact h.b1, by rw [h1]; exact h.d1, h.jc, h.td, h.ctd, by rw [h0]; exact h.cbuf, h.cce, h.chand, by rw [h1]; exact h.cch1, h.ccb, fun i hi a ha' hk => ?_, fun i hi a ha' hk => ?_, fun i hi => ?_, fun i r hi hr => ?_, fun s hs i hi => ?_, fun i hi => ?_, fun i hi => ?_⟩
 · have hi' : (jl i = .todo ∨ (∃ k, jl i = .buf k) ∨ ∃ q, jl i = .hand q ∧ hd.ww q = false) ∧ i ≠ j := by
     rcases hi with hi | ⟨k, hi⟩ | ⟨r, hi, hr⟩
     · exact ⟨.inl hi, jne hi hj (by simp)⟩
     · exact ⟨.inr (.inl ⟨k, hi⟩), jne hi hj (by simp)⟩
     · have e : r ≠ q := fun e => by subst e; simp only [updN_at _ _ _ _ rfl] at hr; cases hr
       simp only [updN_ne _ _ _ _ e] at hr
       exact ⟨.inr (.inr ⟨r, hi, hr⟩), jne hi hj (by simpa using e)⟩
   rcases old ha' hk with a1 | ⟨_, _, a3⟩
   · exact h.n0 i hi'.1 a a1 hk
   · exact hi'.2 a3
 · rcases old ha' hk with a1 | ⟨_, a2, _⟩
   · exact h.n1 i hi a a1 hk
   · exact absurd a2 (by decide)
 · by_cases e : i = j
   · subst e
     rw [at_]
     refine ⟨by omega, ⟨hop, ha, hv⟩, fun a ha' hk => ?_⟩
     rcases old ha' hk with a1 | ⟨a1, _⟩
     · exact absurd hk (no0 a a1)
     · exact a1
   · have hi' : (∃ q, jl i = .hand q ∧ hd.ww q = true) ∨ jl i = .ch1 ∨ jl i = .cb ∨ jl i = .done := by
       rcases hi with ⟨r, r1, r2⟩ | hi
       · have e' : r ≠ q := fun e' => by
           subst e'
           have a1 := (h.chand i r r1).2
           rw [hjw] at a1
           injection a1 with a1
           exact e (by omega)
         simp only [updN_ne _ _ _ _ e'] at r2
         exact .inl ⟨r, r1, r2⟩
       · exact .inr hi
     obtain ⟨a1, a2, a3⟩ := h.u0 i hi'
     rw [oth i e]
     refine ⟨by omega, a2, fun a ha' hk => ?_⟩
     rcases old ha' hk with b1 | ⟨_, _, b3⟩
     · exact a3 a b1 hk
     · exact absurd b3 e
 · by_cases e : i = j
   · subst e
     rw [hj] at hi
     injection hi with hi
     subst hi
     rw [at_]
     exact Past.here hwho (.inl rfl)
   · have e' : r ≠ q := fun e' => by
       subst e'
       have a1 := (h.chand i r hi).2
       rw [hjw] at a1
       injection a1 with a1
       exact e (by omega)
     simp only [updN_ne _ _ _ _ e'] at hr
     rw [oth i e]
     exact (h.ph i r hi hr).succ
 · rw [h1] at hs
   obtain ⟨m, m1, m2⟩ := h.b1 s hs
   have e : i ≠ j := by
     have : i = m := by omega
     subst this
     exact jne m2 hj (by simp)
   rw [oth i e]
   exact h.p1 s hs i hi
 · rw [oth i (jne hi hj (by simp))]
   exact (h.pc i hi).succ
 · obtain ⟨f, f1, f2, f3, f4⟩ := h.dn i hi
   rw [oth i (jne hi hj (by simp))]
   refine ⟨f, by omega, f2, fun a ha' hk => ?_, f4⟩
   rcases old ha' hk with b1 | ⟨_, b2, _⟩
   · exact f3 a b1 hk
   · exact absurd b2 (by decide)
theorem Jb.send1 (h : Jb W hd fed ce E rm n jl hh) (hok : OkAll S E (n + 1)) (q : Nat) (y : Int) (hjw : hd.jw q = some y) (hww : hd.ww q = true) (htw : hd.tw q = none) (hop : (E n).op ≠ 15) (hv : (E n).v = y) (hwho : (E n).who = (q : Int) + 1) (h0 : pend E (n + 1) 0 = pend E n 0) (h1 : pend E (n + 1) 1 = pend E n 1 ++ [n]) : ∃ jl', Jb W { hd with jw := updN hd.jw q none, ww := updN hd.ww q false } fed ce E rm (n + 1) jl' hh := by
 obtain ⟨j, rfl, hj⟩ := h.jw q y hjw
 refine ⟨updN jl j .ch1, ?_⟩
 have at_ : updN jl j .ch1 j = .ch1 := updN_at _ _ _ _ rfl
 have oth : ∀ i, i ≠ j → updN jl j .ch1 i = jl i := fun i hi => updN_ne _ _ _ _ hi
 have same : ∀ i, jl i ≠ .hand q → updN jl j .ch1 i = jl i := fun i hi => oth i (fun e => by subst e; exact hi hj)
 have nf : ∀ {i : Nat} {x : JLoc}, updN jl j .ch1 i = x → x ≠ .ch1 → i ≠ j ∧ jl i = x := fun {i x} hx hne => by
   have hi : i ≠ j := fun e => by subst e; rw [at_] at hx; exact hne hx.symm
   exact ⟨hi, by rw [oth i hi] at hx; exact hx⟩
 have hnq : ∀ i r, i ≠ j → jl i = .hand r → r ≠ q := fun i r hi hr e => by
   subst e
   have a1 := (h.chand i r hr).2
   rw [hjw] at a1
   injection a1 with a1
   exact hi (by omega)
 refine ⟨fun hw => ?_, fun s hs x hx => ?_, fun r x hx hn => ?_, fun r y hy => ?_, fun s hs => ?_, ?_, fun y hy => ?_, fun i hi => ?_, fun i hi => h.ctd i (nf hi (by simp)).2, fun i x hx => ?_, fun i x hx => h.cce i x (nf hx (by simp)).2, fun i r hr => ?_, fun i hi => ?_, fun i hi => h.ccb i (nf hi (by simp)).2, fun i hi a ha hk => ?_, fun i hi a ha hk => ?_, fun i hi => ?_, fun i r hi hr => ?_, fun s hs i hi => ?_, fun i hi => (h.pc i (nf hi (by simp)).2).succ, fun i hi => ?_⟩
 · obtain ⟨x, x1, x2, x3⟩ := h.fd hw
   exact ⟨x, x1, x2, by rw [same fed (by rw [x3]; simp)]; exact x3⟩
 · rw [h0] at hs
   obtain ⟨m, m1, m2⟩ := h.b0 s hs x hx
   exact ⟨m, m1, by rw [same m (by rw [m2]; simp)]; exact m2⟩
 · have e : r ≠ q := fun e => by subst e; rw [show ({ hd with jw := updN hd.jw r none, ww := updN hd.ww r false } : Hd).tw r = hd.tw r from rfl, htw] at hx; cases hx
   simp only [updN_ne _ _ _ _ e] at hn
   obtain ⟨m, m1, m2⟩ := h.tw r x hx hn
   exact ⟨m, m1, by rw [same m (by rw [m2]; simp)]; exact m2⟩
 · by_cases e : r = q
   · subst e; simp only [updN_at _ _ _ _ rfl] at hy; cases hy
   · simp only [updN_ne _ _ _ _ e] at hy
     obtain ⟨m, m1, m2⟩ := h.jw r y hy
     exact ⟨m, m1, by rw [same m (by rw [m2]; simpa using e)]; exact m2⟩
 · rw [h1, List.mem_append, List.mem_singleton] at hs
   rcases hs with hs | rfl
   · obtain ⟨m, m1, m2⟩ := h.b1 s hs
     exact ⟨m, m1, by rw [same m (by rw [m2]; simp)]; exact m2⟩
   · exact ⟨j, hv, at_⟩
 · rw [h1]
   refine nd_snoc h.d1 fun x hx => ?_
   obtain ⟨m, m1, m2⟩ := h.b1 x hx
   rw [m1, hv]
   exact fun e => jne m2 hj (by simp) (by omega)
 · obtain ⟨m, m1, m2⟩ := h.jc y hy
   exact ⟨m, m1, by rw [same m (by rw [m2]; simp)]; exact m2⟩
 · have := h.td i hi
   rw [same i (by rw [this]; simp)]; exact this
 · rcases h.cbuf i x (nf hx (by simp)).2 with a | a | ⟨r, r1, r2, r3⟩
   · exact .inl (by rw [h0]; exact a)
   · exact .inr (.inl a)
   · refine .inr (.inr ⟨r, r1, r2, ?_⟩)
     by_cases e : r = q
     · subst e; exact updN_at _ _ _ _ rfl
     · simp only [updN_ne _ _ _ _ e]; exact r3
 · obtain ⟨e, hr'⟩ := nf hr (by simp)
   obtain ⟨a1, a2⟩ := h.chand i r hr'
   exact ⟨a1, by simp only [updN_ne _ _ _ _ (hnq i r e hr')]; exact a2⟩
 · rw [h1]
   by_cases e : i = j
   · subst e; exact ⟨n, by simp, hv⟩
   · rw [oth i e] at hi
     obtain ⟨s, s1, s2⟩ := h.cch1 i hi
     exact ⟨s, List.mem_append_left _ s1, s2⟩
 · refine h.n0 i ?_ a (wk_old hop ha hk) hk
   rcases hi with hi | ⟨k, hi⟩ | ⟨r, hi, hr⟩
   · exact .inl (nf hi (by simp)).2
   · exact .inr (.inl ⟨k, (nf hi (by simp)).2⟩)
   · obtain ⟨e, hi'⟩ := nf hi (by simp)
     simp only [updN_ne _ _ _ _ (hnq i r e hi')] at hr
     exact .inr (.inr ⟨r, hi', hr⟩)
 · refine h.n1 i (fun e => hi ?_) a (wk_old hop ha hk) hk
   rw [same i (by rw [e]; simp)]; exact e
 · have hi' : (∃ q, jl i = .hand q ∧ hd.ww q = true) ∨ jl i = .ch1 ∨ jl i = .cb ∨ jl i = .done := by
     by_cases e : i = j
     · subst e; exact .inl ⟨q, hj, hww⟩
     · rw [oth i e] at hi
       rcases hi with ⟨r, r1, r2⟩ | hi
       · simp only [updN_ne _ _ _ _ (hnq i r e r1)] at r2
         exact .inl ⟨r, r1, r2⟩
       · exact .inr hi
   obtain ⟨a1, a2, a3⟩ := h.u0 i hi'
   exact ⟨by omega, a2, fun a ha hk => a3 a (wk_old hop ha hk) hk⟩
 · obtain ⟨e, hi'⟩ := nf hi (by simp)
   simp only [updN_ne _ _ _ _ (hnq i r e hi')] at hr
   exact (h.ph i r hi' hr).succ
 · rw [h1, List.mem_append, List.mem_singleton] at hs
   rcases hs with hs | rfl
   · exact h.p1 s hs i hi
   · have : i = j := by omega
     subst this
     exact (h.ph i q hj hww).bh hok hwho
 · obtain ⟨f, f1, f2, f3, f4⟩ := h.dn i (nf hi (by simp)).2
   exact ⟨f, by omega, f2, fun a ha hk => f3 a (wk_old hop ha hk) hk, f4⟩
theorem Jb.take1 (h : Jb W hd fed ce E rm n jl hh) (y : Int) (s : Nat) (hjc : hd.jc = none) (hop : (E n).op ≠ 15) (hwho : (E n).who = 0) (h0 : pend E (n + 1) 0 = pend E n 0) (h1 : pend E n 1 = s :: pend E (n + 1) 1) (hs : (E s).v = y) (hb : Bh E rm s n) : ∃ jl', Jb W { hd with jc := some y } fed ce E rm (n + 1) jl' hh := by
 have hsm : s ∈ pend E n 1 := by rw [h1]; simp
 obtain ⟨j, j1, hj⟩ := h.b1 s hsm
 have sub : ∀ x ∈ pend E (n + 1) 1, x ∈ pend E n 1 := fun x hx => by rw [h1]; exact List.mem_cons_of_mem _ hx
 have hnd := nd_tail (by have := h.d1; rw [h1] at this; exact this)
 refine ⟨updN jl j .cb, ?_⟩
 have at_ : updN jl j .cb j = .cb := updN_at _ _ _ _ rfl
 have oth : ∀ i, i ≠ j → updN jl j .cb i = jl i := fun i hi => updN_ne _ _ _ _ hi
 have same : ∀ i, jl i ≠ .ch1 → updN jl j .cb i = jl i := fun i hi => oth i (fun e => by subst e; exact hi hj)
 have nf : ∀ {i : Nat} {x : JLoc}, updN jl j .cb i = x → x ≠ .cb → i ≠ j ∧ jl i = x := fun {i x} hx hne => by
   have hi : i ≠ j := fun e => by subst e; rw [at_] at hx; exact hne hx.symm
   exact ⟨hi, by rw [oth i hi] at hx; exact hx⟩
 have onlyj : ∀ i, updN jl j .cb i = .cb → i = j := fun i hi => by
   rcases Decidable.em (i = j) with e | e
   · exact e
   · rw [oth i e] at hi
     have := h.ccb i hi
     rw [hjc] at this; cases this
 refine ⟨fun hw => ?_, fun s' hs' x hx => ?_, fun r x hx hn => ?_, fun r z hz => ?_, fun s' hs' => ?_, hnd.1, fun z hz => ?_, fun i hi => ?_, fun i hi => h.ctd i (nf hi (by simp)).2, fun i x hx => ?_, fun i x hx => h.cce i x (nf hx (by simp)).2, fun i r hr => h.chand i r (nf hr (by simp)).2, fun i hi => ?_, fun i hi => ?_, fun i hi a ha hk => ?_, fun i hi a ha hk => ?_, fun i hi => ?_, fun i r hi hr => (h.ph i r (nf hi (by simp)).2 hr).succ, fun s' hs' i hi => h.p1 s' (sub s' hs') i hi, fun i hi => ?_, fun i hi => ?_⟩
 · obtain ⟨x, x1, x2, x3⟩ := h.fd hw
   exact ⟨x, x1, x2, by rw [same fed (by rw [x3]; simp)]; exact x3⟩
 · rw [h0] at hs'
   obtain ⟨m, m1, m2⟩ := h.b0 s' hs' x hx
   exact ⟨m, m1, by rw [same m (by rw [m2]; simp)]; exact m2⟩
 · obtain ⟨m, m1, m2⟩ := h.tw r x hx hn
   exact ⟨m, m1, by rw [same m (by rw [m2]; simp)]; exact m2⟩
 · obtain ⟨m, m1, m2⟩ := h.jw r z hz
   exact ⟨m, m1, by rw [same m (by rw [m2]; simp)]; exact m2⟩
 · obtain ⟨m, m1, m2⟩ := h.b1 s' (sub s' hs')
   have e : m ≠ j := fun e => by
     subst e
     exact hnd.2 s' hs' (by rw [m1, j1])
   exact ⟨m, m1, by rw [oth m e]; exact m2⟩
 · have hz' : y = z := by injection hz
   exact ⟨j, by rw [← hz', ← hs, j1], at_⟩
 · have := h.td i hi
   rw [same i (by rw [this]; simp)]; exact this
 · rcases h.cbuf i x (nf hx (by simp)).2 with a | a
   · exact .inl (by rw [h0]; exact a)
   · exact .inr a
 · obtain ⟨e, hi'⟩ := nf hi (by simp)
   obtain ⟨s', s1, s2⟩ := h.cch1 i hi'
   rw [h1, List.mem_cons] at s1
   rcases s1 with rfl | s1
   · exact absurd (show i = j by omega) e
   · exact ⟨s', s1, s2⟩
 · rw [onlyj i hi, ← hs, j1]
 · refine h.n0 i ?_ a (wk_old hop ha hk) hk
   rcases hi with hi | ⟨k, hi⟩ | ⟨r, hi, hr⟩
   · exact .inl (nf hi (by simp)).2
   · exact .inr (.inl ⟨k, (nf hi (by simp)).2⟩)
   · exact .inr (.inr ⟨r, (nf hi (by simp)).2, hr⟩)
 · refine h.n1 i (fun e => hi ?_) a (wk_old hop ha hk) hk
   rw [same i (by rw [e]; simp)]; exact e
 · have hi' : (∃ q, jl i = .hand q ∧ hd.ww q = true) ∨ jl i = .ch1 ∨ jl i = .cb ∨ jl i = .done := by
     by_cases e : i = j
     · subst e; exact .inr (.inl hj)
     · rw [oth i e] at hi; exact hi
   obtain ⟨a1, a2, a3⟩ := h.u0 i hi'
   exact ⟨by omega, a2, fun a ha hk => a3 a (wk_old hop ha hk) hk⟩
 · rw [onlyj i hi]
   exact Past.here hwho (.inr ((h.p1 s hsm j j1).trans hb))
 · obtain ⟨f, f1, f2, f3, f4⟩ := h.dn i (nf hi (by simp)).2
   exact ⟨f, by omega, f2, fun a ha hk => f3 a (wk_old hop ha hk) hk, f4⟩
theorem Jb.workc (h : Jb W hd fed ce E rm n jl hh) (hok : OkAll S E (n + 1)) (y : Int) (hjc : hd.jc = some y) (hop : (E n).op = 15) (ha : (E n).a = 1) (hv : (E n).v = y) (hwho : (E n).who = 0) (h0 : pend E (n + 1) 0 = pend E n 0) (h1 : pend E (n + 1) 1 = pend E n 1) : ∃ jl', Jb W { hd with jc := none } fed ce E rm (n + 1) jl' hh := by
 obtain ⟨j, rfl, hj⟩ := h.jc y hjc
 refine ⟨updN jl j .done, ?_⟩
 have at_ : updN jl j .done j = .done := updN_at _ _ _ _ rfl
 have oth : ∀ i, i ≠ j → updN jl j .done i = jl i := fun i hi => updN_ne _ _ _ _ hi
 have same : ∀ i, jl i ≠ .cb → updN jl j .done i = jl i := fun i hi => oth i (fun e => by subst e; exact hi hj)
 have nf : ∀ {i : Nat} {x : JLoc}, updN jl j .done i = x → x ≠ .done → i ≠ j ∧ jl i = x := fun {i x} hx hne => by
   have hi : i ≠ j := fun e => by subst e; rw [at_] at hx; exact hne hx.symm
   exact ⟨hi, by rw [oth i hi] at hx; exact hx⟩
 have old : ∀ {a : Nat} {w : Int} {i : Nat}, a < n + 1 → Wk E a w i → (a < n) ∨ (a = n ∧ w = 1 ∧ i = j) := fun {a w i} ha' hk => by
   by_cases e : a = n
   · subst e; exact .inr ⟨rfl, wk_at ha hv hk⟩
   · exact .inl (by omega)
 refine ⟨fun hw => ?_, fun s' hs' x hx => ?_, fun r x hx hn => ?_, fun r z hz => ?_, fun s' hs' => ?_, by rw [h1]; exact h.d1, fun z hz => (by cases hz), fun i hi => ?_, fun i hi => h.ctd i (nf hi (by simp)).2, fun i x hx => ?_, fun i x hx => h.cce i x (nf hx (by simp)).2, fun i r hr => h.chand i r (nf hr (by simp)).2, fun i hi => by rw [h1]; exact h.cch1 i (nf hi (by simp)).2, fun i hi => ?_, fun i hi a ha hk => ?_, fun i hi a ha hk => ?_, fun i hi => ?_, fun i r hi hr => (h.ph i r (nf hi (by simp)).2 hr).succ, fun s' hs' i hi => h.p1 s' (by rw [← h1]; exact hs') i hi, fun i hi => (h.pc i (nf hi (by simp)).2).succ, fun i hi => ?_⟩
 · obtain ⟨x, x1, x2, x3⟩ := h.fd hw
   exact ⟨x, x1, x2, by rw [same fed (by rw [x3]; simp)]; exact x3⟩
 · rw [h0] at hs'
   obtain ⟨m, m1, m2⟩ := h.b0 s' hs' x hx
   exact ⟨m, m1, by rw [same m (by rw [m2]; simp)]; exact m2⟩
 · obtain ⟨m, m1, m2⟩ := h.tw r x hx hn
   exact ⟨m, m1, by rw [same m (by rw [m2]; simp)]; exact m2⟩
 · obtain ⟨m, m1, m2⟩ := h.jw r z hz
   exact ⟨m, m1, by rw [same m (by rw [m2]; simp)]; exact m2⟩
 · rw [h1] at hs'
   obtain ⟨m, m1, m2⟩ := h.b1 s' hs'
   exact ⟨m, m1, by rw [same m (by rw [m2]; simp)]; exact m2⟩
 · have := h.td i hi
   rw [same i (by rw [this]; simp)]; exact this
 · rcases h.cbuf i x (nf hx (by simp)).2 with a | a
   · exact .inl (by rw [h0]; exact a)
   · exact .inr a
 · obtain ⟨e, hi'⟩ := nf hi (by simp)
   have := h.ccb i hi'
   rw [hjc] at this
   injection this with this
   exact absurd (show i = j by omega) e
 · have hi' : (jl i = .todo ∨ (∃ k, jl i = .buf k) ∨ ∃ q, jl i = .hand q ∧ hd.ww q = false) := by
     rcases hi with hi | ⟨k, hi⟩ | ⟨r, hi, hr⟩
     · exact .inl (nf hi (by simp)).2
     · exact .inr (.inl ⟨k, (nf hi (by simp)).2⟩)
     · exact .inr (.inr ⟨r, (nf hi (by simp)).2, hr⟩)
   rcases old ha hk with a1 | ⟨_, a2, _⟩
   · exact h.n0 i hi' a a1 hk
   · exact absurd a2 (by decide)
 · have e : i ≠ j := fun e => by subst e; exact hi at_
   rw [oth i e] at hi
   rcases old ha hk with a1 | ⟨_, _, a3⟩
   · exact h.n1 i hi a a1 hk
   · exact e a3
 · have hi' : (∃ q, jl i = .hand q ∧ hd.ww q = true) ∨ jl i = .ch1 ∨ jl i = .cb ∨ jl i = .done := by
     by_cases e : i = j
     · subst e; exact .inr (.inr (.inl hj))
     · rw [oth i e] at hi; exact hi
   obtain ⟨a1, a2, a3⟩ := h.u0 i hi'
   refine ⟨by omega, a2, fun a ha' hk => ?_⟩
   rcases old ha' hk with b1 | ⟨_, b2, _⟩
   · exact a3 a b1 hk
   · exact absurd b2 (by decide)
 · by_cases e : i = j
   · subst e
     refine ⟨n, by omega, ⟨hop, ha, hv⟩, fun a ha' hk => ?_, (h.pc i hj).bh hok hwho⟩
     rcases old ha' hk with b1 | ⟨b1, _⟩
     · exact absurd hk (h.n1 i (by rw [hj]; simp) a b1)
     · exact b1
   · rw [oth i e] at hi
     obtain ⟨f, f1, f2, f3, f4⟩ := h.dn i hi
     refine ⟨f, by omega, f2, fun a ha' hk => ?_, f4⟩
     rcases old ha' hk with b1 | ⟨_, _, b3⟩
     · exact f3 a b1 hk
     · exact absurd b3 e
end
open Go.RowKit
def PoolJobs (S : Sys) (W b : Nat) (rm : Int → Int) (γ : Gh) (P : PW) : Prop := PoolInv S W b rm γ P ∧ ∀ E, Agr P E → OkAll S E P.ev.length → ∃ jl hh, Jb W (hdP W P) γ.fed P.ce E rm P.ev.length jl hh
section
variable {S : Sys} {W b : Nat} {rm : Int → Int}
theorem poolJobs_start {J : Nat} : PoolJobs S W b rm (gh0 W b J) begunP := ⟨poolInv_start, fun E _ _ => by
 have hd : hdP W begunP = ⟨none, false, fun _ => none, fun _ => none, fun _ => false, none⟩ := by simp [hdP, begunP]
 exact ⟨fun _ => .todo, fun _ => 0, by rw [hd]; exact Jb.start⟩⟩
set_option maxHeartbeats 1000000 in
theorem poolJobs_step {γ γ' : Gh} {P P' : PW} (h : PoolJobs S W b rm γ P) (ht : Tr W b P γ.sent γ.fed P' γ'.sent γ'.fed) : PoolJobs S W b rm γ' P' := by
 refine ⟨poolInv_step h.1 ht, fun E hA hok => ?_⟩
 cases ht with
 | silent e he h5 h12 h13 h15 h6 hh hc hd hs hf =>
   obtain ⟨hA', hE, hl⟩ := hA.snoc he
   rw [hl] at hok ⊢
   obtain ⟨tl, c0, c1, c2, tk⟩ := h.1 E hA' (fun j hj => hok j (by omega))
   obtain ⟨jl, hj, jb⟩ := h.2 E hA' (fun j hj => hok j (by omega))
   have o6 : ∀ c : Int, e.op ≠ 6 ∨ e.a ≠ c ∨ e.sh = true := fun c => by
     by_cases e6 : e.op = 6
     · exact .inr (.inr (h6 e6))
     · exact .inl e6
   rw [hc, hf]
   exact ⟨jl, hj, jb.frame (by rw [hE]; exact h15) (c0.other hE (.inl h5) (o6 0)).2 (c1.other hE (.inl h5) (o6 1)).2 (by rw [hd]) (fun _ => by rw [hd]) (fun _ _ => by rw [hd]) (by rw [hd]) (by rw [hd]) (by rw [hd])⟩
 | send2f he hh hc hd hs hs' hf =>
   obtain ⟨hA', hE, hl⟩ := hA.snoc he
   rw [hl] at hok ⊢
   obtain ⟨tl, c0, c1, c2, tk⟩ := h.1 E hA' (fun j hj => hok j (by omega))
   obtain ⟨jl, hj, jb⟩ := h.2 E hA' (fun j hj => hok j (by omega))
   rw [hc, hf]
   exact ⟨jl, hj, jb.frame (by rw [hE]; simp) (c0.other hE (.inr (by simp)) (.inl (by simp))).2 (c1.other hE (.inr (by simp)) (.inl (by simp))).2 (by rw [hd]) (fun _ => by rw [hd]) (fun _ _ => by rw [hd]) (by rw [hd]) (by rw [hd]) (by rw [hd])⟩
 | take2 x l he hx hh hc htf hwf hd hs hf =>
   obtain ⟨hA', hE, hl⟩ := hA.snoc he
   rw [hl] at hok ⊢
   obtain ⟨tl, c0, c1, c2, tk⟩ := h.1 E hA' (fun j hj => hok j (by omega))
   obtain ⟨jl, hj, jb⟩ := h.2 E hA' (fun j hj => hok j (by omega))
   rw [hc, hf]
   exact ⟨jl, hj, jb.frame (by rw [hE]; simp) (c0.other hE (.inl (by simp)) (.inr (.inl (by simp)))).2 (c1.other hE (.inl (by simp)) (.inr (.inl (by simp)))).2 (by rw [hd]) (fun hw => by rw [hwf] at hw; cases hw) (fun _ _ => by rw [hd]) (by rw [hd]) (by rw [hd]) (by rw [hd])⟩
 | write x he hh hc htf hwf hd hs hf =>
   obtain ⟨hA', hE, hl⟩ := hA.snoc he
   rw [hl] at hok ⊢
   obtain ⟨tl, c0, c1, c2, tk⟩ := h.1 E hA' (fun j hj => hok j (by omega))
   obtain ⟨jl, hj, jb⟩ := h.2 E hA' (fun j hj => hok j (by omega))
   obtain ⟨k, k1, k2, k3⟩ := tk.f x htf
   subst k2
   rw [hc, hf, hd, mod_small k1]
   exact ⟨_, hj, jb.write tk k htf hwf (by rw [hE]; simp) (c0.other hE (.inl (by simp)) (.inl (by simp))).2 (c1.other hE (.inl (by simp)) (.inl (by simp))).2⟩
 | send0 x he hh hc htf hwf hd hs hf =>
   obtain ⟨hA', hE, hl⟩ := hA.snoc he
   rw [hl] at hok ⊢
   obtain ⟨tl, c0, c1, c2, tk⟩ := h.1 E hA' (fun j hj => hok j (by omega))
   obtain ⟨jl, hj, jb⟩ := h.2 E hA' (fun j hj => hok j (by omega))
   obtain ⟨k, k1, k2, k3⟩ := tk.f x htf
   subst k2
   rw [hc, hf, hd]
   exact ⟨jl, hj, jb.send0 k htf hwf (by rw [hE]; simp) (by rw [hE]) (c0.sent hE rfl rfl).2 (c1.other hE (.inr (by simp)) (.inl (by simp))).2⟩
 | take0 q x l hq he hx hh hc htw hjw hww hd hs hf =>
   obtain ⟨hA', hE, hl⟩ := hA.snoc he
   rw [hl] at hok ⊢
   obtain ⟨tl, c0, c1, c2, tk⟩ := h.1 E hA' (fun j hj => hok j (by omega))
   obtain ⟨jl, hj, jb⟩ := h.2 E hA' (fun j hj => hok j (by omega))
   rw [hx] at c0
   obtain ⟨s, s1, s2, s3, a0⟩ := c0.took (rm := rm) hE rfl rfl rfl
   obtain ⟨k, k1, k2, k3⟩ := tk.p0 s (by rw [s1]; simp)
   obtain rfl : x = k := by rw [← s2, k2]
   rw [hc, hf, hd]
   exact ⟨jl, hj, jb.take0 q k s hq hjw htw (by rw [hE]; simp) s1 k2 (c1.other hE (.inl (by simp)) (.inr (.inl (by simp)))).2⟩
 | read q x hq he hh hc htw hjw hww hd hs hf =>
   obtain ⟨hA', hE, hl⟩ := hA.snoc he
   rw [hl] at hok ⊢
   obtain ⟨tl, c0, c1, c2, tk⟩ := h.1 E hA' (fun j hj => hok j (by omega))
   obtain ⟨jl, hj, jb⟩ := h.2 E hA' (fun j hj => hok j (by omega))
   obtain ⟨k, k1, k2, k3⟩ := tk.w q x htw
   subst k2
   obtain ⟨j, _, jb'⟩ := jb.read tk q k hq hjw htw hww (by rw [hE]; simp) (c0.other hE (.inl (by simp)) (.inl (by simp))).2 (c1.other hE (.inl (by simp)) (.inl (by simp))).2
   rw [hc, hf, hd, mod_small k1]
   exact ⟨_, hj, jb'⟩
 | work q x y hq he hh hc htw hjw hww hd hs hf =>
   obtain ⟨hA', hE, hl⟩ := hA.snoc he
   rw [hl] at hok ⊢
   obtain ⟨tl, c0, c1, c2, tk⟩ := h.1 E hA' (fun j hj => hok j (by omega))
   obtain ⟨jl, hj, jb⟩ := h.2 E hA' (fun j hj => hok j (by omega))
   obtain ⟨hj', jb'⟩ := jb.work q y hjw hww (by rw [hE]) (by rw [hE]) (by rw [hE]) (by rw [hE]) (c0.other hE (.inl (by simp)) (.inl (by simp))).2 (c1.other hE (.inl (by simp)) (.inl (by simp))).2
   rw [hc, hf, hd]
   exact ⟨jl, hj', jb'⟩
 | send2w q x y hq he hh hc htw hjw hww hd hs hf =>
   obtain ⟨hA', hE, hl⟩ := hA.snoc he
   rw [hl] at hok ⊢
   obtain ⟨tl, c0, c1, c2, tk⟩ := h.1 E hA' (fun j hj => hok j (by omega))
   obtain ⟨jl, hj, jb⟩ := h.2 E hA' (fun j hj => hok j (by omega))
   rw [hc, hf]
   refine ⟨jl, hj, jb.frame (by rw [hE]; simp) (c0.other hE (.inr (by simp)) (.inl (by simp))).2 (c1.other hE (.inr (by simp)) (.inl (by simp))).2 (by rw [hd]) (fun _ => by rw [hd]) (fun r hr => ?_) (by rw [hd]) (by rw [hd]) (by rw [hd])⟩
   rw [hd]
   have e : r ≠ q := fun e => by subst e; rw [hjw] at hr; cases hr
   exact updN_ne _ _ _ _ e
 | send1 q y hq he hh hc htw hjw hww hd hs hf =>
   obtain ⟨hA', hE, hl⟩ := hA.snoc he
   rw [hl] at hok ⊢
   obtain ⟨tl, c0, c1, c2, tk⟩ := h.1 E hA' (fun j hj => hok j (by omega))
   obtain ⟨jl, hj, jb⟩ := h.2 E hA' (fun j hj => hok j (by omega))
   obtain ⟨jl', jb'⟩ := jb.send1 hok q y hjw hww htw (by rw [hE]; simp) (by rw [hE]) (by rw [hE]) (c0.other hE (.inr (by simp)) (.inl (by simp))).2 (c1.sent hE rfl rfl).2
   rw [hc, hf, hd]
   exact ⟨jl', hj, jb'⟩
 | take1 y l he hx hh hc hjc hd hs hf =>
   obtain ⟨hA', hE, hl⟩ := hA.snoc he
   rw [hl] at hok ⊢
   obtain ⟨tl, c0, c1, c2, tk⟩ := h.1 E hA' (fun j hj => hok j (by omega))
   obtain ⟨jl, hj, jb⟩ := h.2 E hA' (fun j hj => hok j (by omega))
   rw [hx] at c1
   obtain ⟨s, s1, s2, s3, _⟩ := c1.took (rm := rm) hE rfl rfl rfl
   obtain ⟨jl', jb'⟩ := jb.take1 y s hjc (by rw [hE]; simp) (by rw [hE]) (c0.other hE (.inl (by simp)) (.inr (.inl (by simp)))).2 s1 s2 s3
   rw [hc, hf, hd]
   exact ⟨jl', hj, jb'⟩
 | workc y he hh hc hjc hd hs hf =>
   obtain ⟨hA', hE, hl⟩ := hA.snoc he
   rw [hl] at hok ⊢
   obtain ⟨tl, c0, c1, c2, tk⟩ := h.1 E hA' (fun j hj => hok j (by omega))
   obtain ⟨jl, hj, jb⟩ := h.2 E hA' (fun j hj => hok j (by omega))
   obtain ⟨jl', jb'⟩ := jb.workc hok y hjc (by rw [hE]) (by rw [hE]) (by rw [hE]) (by rw [hE]) (c0.other hE (.inl (by simp)) (.inl (by simp))).2 (c1.other hE (.inl (by simp)) (.inl (by simp))).2
   rw [hc, hf, hd]
   exact ⟨jl', hj, jb'⟩
end
section
variable {W Q b J : Nat}
theorem pool_jobs (pk : PoolOk W Q b J) (hv : validB (poolS W Q b J) = true) (rm : Int → Int) (picks : List Int) (j : Nat) (hj : j < J) :
   ∃ h f, h < (playP (poolS W Q b J) picks).P.ev.length ∧ f < (playP (poolS W Q b J) picks).P.ev.length ∧ Wk (lE (playP (poolS W Q b J) picks).P.ev) h 0 j ∧ Wk (lE (playP (poolS W Q b J) picks).P.ev) f 1 j ∧
     (∀ a, a < (playP (poolS W Q b J) picks).P.ev.length → Wk (lE (playP (poolS W Q b J) picks).P.ev) a 0 j → a = h) ∧ (∀ a, a < (playP (poolS W Q b J) picks).P.ev.length → Wk (lE (playP (poolS W Q b J) picks).P.ev) a 1 j → a = f) ∧ Bh (lE (playP (poolS W Q b J) picks).P.ev) rm h f := by
 obtain ⟨_, _, _, _, γ, hI, hp, hE⟩ := play_pool pk picks (Φ := PoolJobs (poolS W Q b J) W b rm) poolJobs_start (fun γ γ' P P' _ _ h ht => poolJobs_step h ht)
 obtain ⟨t1, _, _⟩ := play_run hv picks
 generalize (playP (poolS W Q b J) picks).P = P at *
 obtain ⟨tl, c0, c1, c2, tk⟩ := hp.1 _ (lE_agr P) (tok_all t1)
 obtain ⟨jl, hh, jb⟩ := hp.2 _ (lE_agr P) (tok_all t1)
 have hw1 := pk.w1
 have hcb := hI.cb
 have hfd := hI.fd
 rw [hE.c] at hcb
 rw [hE.f] at hfd
 simp only [ICb, IFd] at hcb hfd
 have w8 : cw P W 8 = W := cw_all hE.w
 obtain ⟨q1, q2, q3, q4, q5, q6, q7, q8, q9, q10, q11, q12, q13, q14, q15, q16⟩ := hI.gn
 rw [hcb.1] at q9 q5
 have h0 := (q9 (by omega)).2
 have h1 : (P.held 1).length = 0 := by omega
 have p0 : pend (lE P.ev) P.ev.length 0 = [] := by
   have := c0.eq
   rw [List.eq_nil_of_length_eq_zero h0] at this
   exact List.map_eq_nil_iff.1 this.symm
 have p1 : pend (lE P.ev) P.ev.length 1 = [] := by
   have := c1.eq
   rw [List.eq_nil_of_length_eq_zero h1] at this
   exact List.map_eq_nil_iff.1 this.symm
 have hwf : (hdP W P).wf = false := by simp [hdP, hE.f]
 have htw : ∀ q, (hdP W P).tw q = none := fun q => by
   simp only [hdP]
   by_cases hq : q < W
   · rw [hE.w q hq]; simp
   · simp [hq]
 have hjw : ∀ q, (hdP W P).jw q = none := fun q => by
   simp only [hdP]
   by_cases hq : q < W
   · rw [hE.w q hq]; simp
   · simp [hq]
 have hjc : (hdP W P).jc = none := by simp [hdP, hE.c]
 have hdone : jl j = .done := by
   cases e : jl j with
   | todo => have := jb.ctd j e; omega
   | buf k =>
     rcases jb.cbuf j k e with ⟨s, s1, _⟩ | ⟨a, _⟩ | ⟨q, _, a, _⟩
     · rw [p0] at s1; simp at s1
     · rw [hwf] at a; cases a
     · rw [htw] at a; cases a
   | hand q => have := (jb.chand j q e).2; rw [hjw] at this; cases this
   | ch1 =>
     obtain ⟨s, s1, _⟩ := jb.cch1 j e
     rw [p1] at s1; simp at s1
   | cb => have := jb.ccb j e; rw [hjc] at this; cases this
   | done => rfl
 obtain ⟨f, f1, f2, f3, f4⟩ := jb.dn j hdone
 obtain ⟨a1, a2, a3⟩ := jb.u0 j (.inr (.inr (.inr hdone)))
 exact ⟨hh j, f, a1, f1, a2, f2, a3, f3, f4⟩
end
open Go.RowKit
section
variable {W Q b J : Nat}
set_option maxHeartbeats 2000000 in
theorem pool_valid (pk : PoolOk W Q b J) (hQ : Q ≤ 1024) : validB (poolS W Q b J) = true := by
 have hw := pk.w1
 have hw2 := pk.w2
 have hq := pk.q1
 have hb := pk.b1
 have hb2 := pk.b2
 have hj := pk.j2
 rw [validB_iff, headB_iff]
 refine ⟨⟨show 1 ≤ 4 by decide, show 4 ≤ 64 by decide, show 3 ≤ 64 by decide, rfl, rfl, ?_⟩, fun i hi => ?_, fun p hp => ?_⟩
 · show shB (b : Int) = true
   rw [shB_iff]; omega
 · have hi' : i < 3 := hi
   show roomB (if i = 2 then (b : Int) else (Q : Int)) = true
   unfold roomB
   simp only [Bool.and_eq_true, decide_eq_true_eq]
   split <;> omega
 · have hp' : p = 0 ∨ p = 1 ∨ p = 2 ∨ p = 3 := by have h : p < 4 := hp; omega
   rcases hp' with rfl | rfl | rfl | rfl
   · refine ⟨show 15 ≤ 256 by decide, fun i hi => ?_⟩
     have h : i = 0 ∨ i = 1 ∨ i = 2 ∨ i = 3 ∨ i = 4 ∨ i = 5 ∨ i = 6 ∨ i = 7 ∨ i = 8 ∨ i = 9 ∨ i = 10 ∨ i = 11 ∨ i = 12 ∨ i = 13 ∨ i = 14 := by have h : i < 15 := hi; omega
     rcases h with rfl | rfl | rfl | rfl | rfl | rfl | rfl | rfl | rfl | rfl | rfl | rfl | rfl | rfl | rfl <;> first | rfl | (simp [rightS, poolS, pqI, pqC, pqW, pqF, pqK, opOk, kd, kdL, mayS, bnd] <;> omega)
   · refine ⟨show 8 ≤ 256 by decide, fun i hi => ?_⟩
     have h : i = 0 ∨ i = 1 ∨ i = 2 ∨ i = 3 ∨ i = 4 ∨ i = 5 ∨ i = 6 ∨ i = 7 := by have h : i < 8 := hi; omega
     rcases h with rfl | rfl | rfl | rfl | rfl | rfl | rfl | rfl <;> first | rfl | (simp [rightS, poolS, pqI, pqC, pqW, pqF, pqK, opOk, kd, kdL, mayS, bnd] <;> omega)
   · refine ⟨show 19 ≤ 256 by decide, fun i hi => ?_⟩
     have h : i = 0 ∨ i = 1 ∨ i = 2 ∨ i = 3 ∨ i = 4 ∨ i = 5 ∨ i = 6 ∨ i = 7 ∨ i = 8 ∨ i = 9 ∨ i = 10 ∨ i = 11 ∨ i = 12 ∨ i = 13 ∨ i = 14 ∨ i = 15 ∨ i = 16 ∨ i = 17 ∨ i = 18 := by have h : i < 19 := hi; omega
     rcases h with rfl | rfl | rfl | rfl | rfl | rfl | rfl | rfl | rfl | rfl | rfl | rfl | rfl | rfl | rfl | rfl | rfl | rfl | rfl <;> first | rfl | (simp [rightS, poolS, pqI, pqC, pqW, pqF, pqK, opOk, kd, kdL, mayS, bnd] <;> omega)
   · refine ⟨show 3 ≤ 256 by decide, fun i hi => ?_⟩
     have h : i = 0 ∨ i = 1 ∨ i = 2 := by have h : i < 3 := hi; omega
     rcases h with rfl | rfl | rfl <;> first | rfl | (simp [rightS, poolS, pqI, pqC, pqW, pqF, pqK, opOk, kd, kdL, mayS, bnd] <;> omega)
theorem pool_wf : QWf (poolS W Q b J) := fun p hp i hi => by
 have hp' : p = 0 ∨ p = 1 ∨ p = 2 ∨ p = 3 := by have h : p < 4 := hp; omega
 rcases hp' with rfl | rfl | rfl | rfl
 · have h : i = 0 ∨ i = 1 ∨ i = 2 ∨ i = 3 ∨ i = 4 ∨ i = 5 ∨ i = 6 ∨ i = 7 ∨ i = 8 ∨ i = 9 ∨ i = 10 ∨ i = 11 ∨ i = 12 ∨ i = 13 ∨ i = 14 := by have h : i < 15 := hi; omega
   rcases h with rfl | rfl | rfl | rfl | rfl | rfl | rfl | rfl | rfl | rfl | rfl | rfl | rfl | rfl | rfl <;> rfl
 · have h : i = 0 ∨ i = 1 ∨ i = 2 ∨ i = 3 ∨ i = 4 ∨ i = 5 ∨ i = 6 ∨ i = 7 := by have h : i < 8 := hi; omega
   rcases h with rfl | rfl | rfl | rfl | rfl | rfl | rfl | rfl <;> rfl
 · have h : i = 0 ∨ i = 1 ∨ i = 2 ∨ i = 3 ∨ i = 4 ∨ i = 5 ∨ i = 6 ∨ i = 7 ∨ i = 8 ∨ i = 9 ∨ i = 10 ∨ i = 11 ∨ i = 12 ∨ i = 13 ∨ i = 14 ∨ i = 15 ∨ i = 16 ∨ i = 17 ∨ i = 18 := by have h : i < 19 := hi; omega
   rcases h with rfl | rfl | rfl | rfl | rfl | rfl | rfl | rfl | rfl | rfl | rfl | rfl | rfl | rfl | rfl | rfl | rfl | rfl | rfl <;> rfl
 · have h : i = 0 ∨ i = 1 ∨ i = 2 := by have h : i < 3 := hi; omega
   rcases h with rfl | rfl | rfl <;> rfl
end
open Go.RowKit
section
variable {S : Sys} {E : Nat → Ev} {rm : Int → Int} {n i j k : Nat}
theorem bef_bh (hok : OkAll S E n) (hi : i < n) (hj : j < n) : befB E rm i j = true ↔ Bh E rm i j := by
 rw [bef_beh hok hi hj, behT_iff hok j hj]
end
open Go.RowKit
def AWk (P : PW) (x : PW × Int) : Prop := ∃ e, x.1.ev = P.ev ++ [e] ∧ (e.op = 15 → e.a = 0 ∨ e.a = 1)
theorem awk_ite {P : PW} {c : Prop} [Decidable c] {x y : PW × Int} (h1 : c → AWk P x) (h2 : ¬ c → AWk P y) : AWk P (if c then x else y) := by
 by_cases h : c
 · rw [if_pos h]; exact h1 h
 · rw [if_neg h]; exact h2 h
theorem stepP_awk (S : Sys) (P : PW) (k : Nat) (f : Nat → Int) (hf : f 0 = 15 → f 1 = 0 ∨ f 1 = 1) : AWk P (stepP S P k f) := by
 unfold stepP
 simp only []
 repeat' (refine awk_ite (fun _ => ?_) (fun _ => ?_))
 all_goals first
   | exact ⟨_, rfl, hf⟩
   | exact ⟨_, rfl, fun _ => hf (by assumption)⟩
   | exact ⟨_, rfl, fun h => by (have h' : f 0 = 15 := h; omega)⟩
   | exact ⟨_, rfl, fun h => by simp at h⟩
   | (cases P.held (f 1).toNat <;> first | exact ⟨_, rfl, hf⟩ | exact ⟨_, rfl, fun h => by (have h' : f 0 = 15 := h; omega)⟩ | exact ⟨_, rfl, fun h => by simp at h⟩)
def WkI (S : Sys) : Prop := ∀ p, p < S.np → ∀ i, i < S.lp p → S.q p i 0 = 15 → S.q p i 1 = 0 ∨ S.q p i 1 = 1
theorem runP_awk (S : Sys) (hv : validB S = true) (hq : WkI S) (picks : List Int) : ∀ fuel t P, RInv S P → (∀ e ∈ P.ev, e.op = 15 → e.a = 0 ∨ e.a = 1) → ∀ e ∈ (runP S picks fuel t P).P.ev, e.op = 15 → e.a = 0 ∨ e.a = 1
 | 0, t, P, hr, h => h
 | fuel + 1, t, P, hr, h => by
   unfold runP
   by_cases c1 : endedN S P P.n = true
   · simp only [c1, if_true]; exact h
   by_cases c2 : 40000 ≤ t
   · simp only [c1, c2, if_true, if_false, Bool.false_eq_true]; exact h
   by_cases c3 : readyN S P P.n = []
   · simp only [c1, c2, c3, if_true, if_false, Bool.false_eq_true]; exact h
   simp only [c1, c2, c3, if_false, Bool.false_eq_true]
   obtain ⟨q1, f, q2, q3⟩ := picked S P picks t c3
   generalize (readyN S P P.n).getD (pickP picks t (readyN S P P.n).length) 0 = k at *
   simp only [q2]
   have hrt := right_of hv (hr k q1) q2
   have hfw : f 0 = 15 → f 1 = 0 ∨ f 1 = 1 := by
     unfold instP at q2
     split at q2
     · rename_i hlt
       injection q2 with q2
       rw [← q2]
       exact hq _ (hr k q1) _ hlt
     · cases q2
   obtain ⟨e, e1, e2⟩ := stepP_awk S P k f hfw
   have hk2 : ∀ x ∈ (stepP S P k f).1.ev, x.op = 15 → x.a = 0 ∨ x.a = 1 := fun x hx => by
     rw [e1] at hx
     rcases List.mem_append.1 hx with hx | hx
     · exact h x hx
     · rw [List.mem_singleton.1 hx]; exact e2
   split
   · exact runP_awk S hv hq picks fuel (t + 1) _ (stepP_rinv S P k f hr q1 hrt) hk2
   · exact hk2
theorem pool_wki {W Q b J : Nat} : WkI (poolS W Q b J) := fun p hp i hi => by
 have hp' : p = 0 ∨ p = 1 ∨ p = 2 ∨ p = 3 := by have h : p < 4 := hp; omega
 rcases hp' with rfl | rfl | rfl | rfl
 · have h : i = 0 ∨ i = 1 ∨ i = 2 ∨ i = 3 ∨ i = 4 ∨ i = 5 ∨ i = 6 ∨ i = 7 ∨ i = 8 ∨ i = 9 ∨ i = 10 ∨ i = 11 ∨ i = 12 ∨ i = 13 ∨ i = 14 := by have h : i < 15 := hi; omega
   rcases h with rfl | rfl | rfl | rfl | rfl | rfl | rfl | rfl | rfl | rfl | rfl | rfl | rfl | rfl | rfl <;> simp [poolS, pqI, pqC]
 · have h : i = 0 ∨ i = 1 ∨ i = 2 ∨ i = 3 ∨ i = 4 ∨ i = 5 ∨ i = 6 ∨ i = 7 := by have h : i < 8 := hi; omega
   rcases h with rfl | rfl | rfl | rfl | rfl | rfl | rfl | rfl <;> simp [poolS, pqI, pqW]
 · have h : i = 0 ∨ i = 1 ∨ i = 2 ∨ i = 3 ∨ i = 4 ∨ i = 5 ∨ i = 6 ∨ i = 7 ∨ i = 8 ∨ i = 9 ∨ i = 10 ∨ i = 11 ∨ i = 12 ∨ i = 13 ∨ i = 14 ∨ i = 15 ∨ i = 16 ∨ i = 17 ∨ i = 18 := by have h : i < 19 := hi; omega
   rcases h with rfl | rfl | rfl | rfl | rfl | rfl | rfl | rfl | rfl | rfl | rfl | rfl | rfl | rfl | rfl | rfl | rfl | rfl | rfl <;> simp [poolS, pqI, pqF]
 · have h : i = 0 ∨ i = 1 ∨ i = 2 := by have h : i < 3 := hi; omega
   rcases h with rfl | rfl | rfl <;> simp [poolS, pqI, pqK]
theorem pool_work {W Q b J : Nat} (hv : validB (poolS W Q b J) = true) (picks : List Int) : ∀ i, i < (playP (poolS W Q b J) picks).P.ev.length → (lE (playP (poolS W Q b J) picks).P.ev i).op = 15 → (lE (playP (poolS W Q b J) picks).P.ev i).a = 0 ∨ (lE (playP (poolS W Q b J) picks).P.ev i).a = 1 := fun i hi => by
 have e : lE (playP (poolS W Q b J) picks).P.ev i = (playP (poolS W Q b J) picks).P.ev[i] := by simp [lE, List.getD_eq_getElem?_getD, List.getElem?_eq_getElem hi]
 rw [e]
 exact runP_awk _ hv pool_wki picks 40001 0 begunP (begun_rinv hv) (fun e h => by simp [begunP] at h) _ (List.getElem_mem hi)
def wkB (E : Nat → Ev) (J : Nat) (z : Bool) (k : Nat) : Bool := decide ((E k).op = 15) && (decide (0 ≤ (E k).v ∧ (E k).v < J) && (decide ((E k).a = 0) == z))
def wkF (E : Nat → Ev) (J : Nat) (z : Bool) : Nat → Int → Int
 | 0 => fun _ => 0
 | k + 1 => if wkB E J z k = true then updI (wkF E J z k) (E k).v ((k : Int) + 1) else wkF E J z k
theorem wkF_one {E : Nat → Ev} {J : Nat} {z : Bool} {j : Int} {t : Nat} : ∀ k, t < k → wkB E J z t = true → (E t).v = j → (∀ a, a < k → wkB E J z a = true → (E a).v = j → a = t) → wkF E J z k j = (t : Int) + 1
 | k + 1, ht, hb, hv, hu => by
   rw [wkF]
   by_cases e : t = k
   · subst e
     rw [if_pos hb, hv, updI_same]
   · have ih := wkF_one k (by omega) hb hv (fun a ha => hu a (by omega))
     split
     · rename_i hk
       rw [updI_other _ _ _ _ (fun e' => e (hu k (by omega) hk e'.symm).symm)]
       exact ih
     · exact ih
theorem pool_tables {W Q b J : Nat} (pk : PoolOk W Q b J) (hv : validB (poolS W Q b J) = true) (picks : List Int) (j : Nat) (hj : j < J) :
   ∃ h f : Nat, h < (playP (poolS W Q b J) picks).P.ev.length ∧ f < (playP (poolS W Q b J) picks).P.ev.length ∧ wkF (lE (playP (poolS W Q b J) picks).P.ev) J true (playP (poolS W Q b J) picks).P.ev.length (j : Int) = (h : Int) + 1 ∧ wkF (lE (playP (poolS W Q b J) picks).P.ev) J false (playP (poolS W Q b J) picks).P.ev.length (j : Int) = (f : Int) + 1 ∧
     beforeR (poolS W Q b J) (lE (playP (poolS W Q b J) picks).P.ev) (playP (poolS W Q b J) picks).P.ev.length (h : Int) (f : Int) = (true, 0) ∧ beforeR (poolS W Q b J) (lE (playP (poolS W Q b J) picks).P.ev) (playP (poolS W Q b J) picks).P.ev.length (f : Int) (h : Int) = (false, 0) := by
 obtain ⟨h, f, h1, h2, h3, h4, h5, h6, h7⟩ := pool_jobs pk hv (rmS (poolS W Q b J)) picks j hj
 have hw := pool_work hv picks
 have ht := play_thr hv picks
 obtain ⟨t1, t2, _⟩ := play_run hv picks
 have hok := tok_all t1
 generalize (playP (poolS W Q b J) picks).P = P at *
 generalize hE : lE P.ev = E at *
 obtain ⟨n, hn⟩ : ∃ n, n = P.ev.length := ⟨_, rfl⟩
 rw [← hn] at h1 h2 h5 h6 hw ht hok ⊢
 have hbf : ∀ p q : Nat, p < n → q < n → beforeR (poolS W Q b J) E n (p : Int) (q : Int) = (befB E (rmS (poolS W Q b J)) p q, 0) := fun p q hp hq => by
   have ha : [(p : Int), (q : Int)].all (insB n) = true := by simp [insB]; omega
   unfold beforeR askedR
   rw [ht, if_pos rfl, if_pos ha]
   simp
 have b0 : ∀ a, wkB E J true a = true → (E a).v = (j : Int) → Wk E a 0 j := fun a ha hav => by
   simp only [wkB, Bool.and_eq_true, decide_eq_true_eq, beq_iff_eq] at ha
   exact ⟨ha.1, ha.2.2, hav⟩
 have b1 : ∀ a, a < n → wkB E J false a = true → (E a).v = (j : Int) → Wk E a 1 j := fun a han ha hav => by
   simp only [wkB, Bool.and_eq_true, decide_eq_true_eq, beq_iff_eq, decide_eq_false_iff_not] at ha
   rcases hw a han ha.1 with q | q
   · exact absurd q ha.2.2
   · exact ⟨ha.1, q, hav⟩
 have hb := h7.lt hok h2
 refine ⟨h, f, h1, h2, ?_, ?_, ?_, ?_⟩
 · refine wkF_one n h1 ?_ h3.2.2 fun a ha hb hv => h5 a ha (b0 a hb hv)
   simp only [wkB, Bool.and_eq_true, decide_eq_true_eq, beq_iff_eq]
   exact ⟨h3.1, by rw [h3.2.2]; omega, h3.2.1⟩
 · refine wkF_one n h2 ?_ h4.2.2 fun a ha hb hv => h6 a ha (b1 a ha hb hv)
   simp only [wkB, Bool.and_eq_true, decide_eq_true_eq, beq_iff_eq, decide_eq_false_iff_not]
   exact ⟨h4.1, by rw [h4.2.2]; omega, by rw [h4.2.1]; decide⟩
 · rw [hbf h f h1 h2, (bef_bh hok h1 h2).2 h7]
 · rw [hbf f h h2 h1]
   unfold befB
   rw [decide_eq_false (show ¬ f < h by omega)]
   rfl
open Go.RowKit
theorem cnt_upd (b : Nat → Bool) (j : Nat) (hb : b j = false) : ∀ m, j < m → ((List.range m).filter fun i => !b i).length = ((List.range m).filter fun i => !(updN b j true) i).length + 1
 | 0, h => by omega
 | m + 1, h => by
   rw [List.range_succ, List.filter_append, List.filter_append, List.length_append, List.length_append]
   by_cases e : j = m
   · subst e
     have h1 : (List.range j).filter (fun i => !(updN b j true) i) = (List.range j).filter fun i => !b i := List.filter_congr fun i hi => by
       rw [List.mem_range] at hi
       rw [updN_other _ _ _ _ (by omega)]
     rw [h1]
     simp [updN_same, hb]
   · rw [cnt_upd b j hb m (by omega)]
     have h2 : updN b j true m = b m := updN_other _ _ _ _ (fun h => e h.symm)
     simp only [List.filter_cons, List.filter_nil, h2]
     omega
section
variable {P : Program} {ops : Array Oper} {Q : Exit → Act → World → Prop} {S : World → Prop} {n : Nat}
theorem ah_makes {l : List Oper} (m : Nat) (I : Nat → Nat) (LB : (Nat → Bool) → Array Bool) (AS : (Nat → Option Nat) → Act) (K : (Nat → Option Nat) → World → Prop) (hI : ∀ j, j < m → I j < n)
   (hrd : ∀ b, ((List.range m).filter fun j => !b j) ≠ [] → Region.ready .any ops (LB b) = ((List.range m).filter fun j => !b j).map I) (hset : ∀ b j, j < m → (LB b).setIfInBounds (I j) true = LB (updN b j true)) (hS : ∀ gs w, K gs w → S w)
   (hstep : ∀ j, j < m → ∃ o, ops[I j]? = some o ∧ ∀ gs u (K' : Exit → Act → World → Prop), K gs u → gs j = none → (∀ u' g, K (updN gs j (some g)) u' → wpList P ops K' [] (AS (updN gs j (some g))) u') → wpList P ops K' [o] (AS gs) u)
   (fin : ∀ gs u, (∀ j, j < m → (gs j).isSome = true) → K gs u → AH P ops Q S n l 0 (LB fun j => (gs j).isSome) (AS gs) u) :
   ∀ c gs u, ((List.range m).filter fun j => !(gs j).isSome).length = c → K gs u → AH P ops Q S n l c (LB fun j => (gs j).isSome) (AS gs) u
 | 0, gs, u, hc, hK => fin gs u (fun j hj => by
     have h0 := List.eq_nil_of_length_eq_zero hc
     have h1 := List.filter_eq_nil_iff.1 h0 j (List.mem_range.2 hj)
     cases hg : gs j with
     | some _ => rfl
     | none => simp [hg] at h1) hK
 | c + 1, gs, u, hc, hK => by
   intro hs hcb hn hsel inv
   have hr := hrd (fun j => (gs j).isSome) (fun h => by have hc' : ((List.range m).filter fun j => !(gs j).isSome).length = c + 1 := hc; rw [h] at hc'; simp at hc')
   refine ⟨fun h0 => ?_, fun i hi => ?_⟩
   · rw [hr] at h0
     have := congrArg List.length h0
     rw [List.length_map, hc] at this
     simp at this
   · have hi' := hi
     rw [hr] at hi'
     obtain ⟨j, hj, rfl⟩ := List.mem_map.1 hi'
     obtain ⟨hj1, hj2⟩ := List.mem_filter.1 hj
     have hjm := List.mem_range.1 hj1
     have hnone : gs j = none := by simpa using hj2
     refine ⟨hI j hjm, ?_⟩
     obtain ⟨o, ho, hst⟩ := hstep j hjm
     have inv' := inv.set hi (hI j hjm)
     rw [hset _ j hjm] at inv' ⊢
     have e : ∀ g, (updN (fun j => (gs j).isSome) j true) = fun k => (updN gs j (some g) k).isSome := fun g => by
       funext k
       by_cases h : k = j
       · subst h; rw [updN_same, updN_same]; rfl
       · rw [updN_other _ _ _ _ h, updN_other _ _ _ _ h]
     have h := hst gs u (BackA P ops Q S n l c (LB (updN (fun j => (gs j).isSome) j true))) hK hnone fun u' g hK' => by
       refine backA_intro (hS _ _ hK') ?_
       rw [e g]
       refine ah_makes m I LB AS K hI hrd hset hS hstep fin c _ _ ?_ hK'
       have := cnt_upd (fun j => (gs j).isSome) j (by simp [hnone]) m hjm
       have e2 : (fun i => !(updN (fun j => (gs j).isSome) j true) i) = fun i => !(updN gs j (some g) i).isSome := by rw [e g]
       rw [e2] at this
       omega
     unfold wpList at h
     unfold wpOp
     simp only [ho]
     split
     · rename_i hw
       rw [if_pos hw] at h
       exact h.imp (fun h => wp_backA (Oper.wp_mono (fun a w hk => ⟨hk.1, hk.2 hs hcb hn hsel inv'⟩) h)) id
     · rename_i hw
       rw [if_neg hw] at h
       exact ⟨h.1, h.2 hs hcb hn hsel inv'⟩
theorem wpList_make {rest : List Oper} {o : Oper} {a : Act} {W : World} {x : Operand} (d T e N n size bytes : Nat) (z : Value) (_hd : o.dst = some d) (hgd : o.guard = none) (ho : o.op = .makeSlice T x x) (hx : a.eval x = .int .i64 (n : Int)) (ht : P.underlying T = some (.slice e))
   (hi : (P.info? e).map (fun i => (i.zero, i.size, i.bytes)) = some (some z, size, bytes)) (hb : bytes ≤ 1000) (hn : n ≤ 1000000) (hN : n * size = N)
   (h : ∀ u, Keeps W u [] → u.heap.size = W.heap.size + 1 → Blk u W.heap.size e (madeCells z.cells N) → wpList P ops Q rest (a.put o.dst (.slice (some ⟨W.heap.size, 0, none⟩) n n)) u) : wpList P ops Q (o :: rest) a W := by
 subst hN
 refine wpList_plain hgd fun K hK => ?_
 obtain ⟨i, hi, he⟩ := Option.map_eq_some_iff.1 hi
 simp only [Prod.mk.injEq] at he
 obtain ⟨hz, hsz, hby⟩ := he
 have hmul : bytes * n ≤ 1000 * 1000000 := Nat.mul_le_mul hb hn
 have hr := run_make (P := P) W T e i z ht hi hz .i64 .i64 (n : Int) (n : Int) (by omega) (Int.le_refl _) (by rw [hby, ← Int.natCast_mul]; omega) (by omega)
 rw [Int.toNat_natCast, hsz] at hr
 unfold Oper.wp execOp
 simp only [ho, hx, Sem.run_bind, hr, Result.andThen_ok, Sem.run_pure]
 exact hK _ _ (h _ ((Keeps.refl _ _).alloc _) (by show (W.heap.push _).size = _; exact Array.size_push _) (Blk.new _ _ _))
end
open Go.RowKit Go.Maps Go.Deep
structure Ly where
 ps : Nat
 wp : Nat
 bp : Nat
 bl : Nat
 bg : Nat
 bc : Nat
 lk : Nat
 gr : Nat
 ce : Nat
def wpC (y : Ly) (nr gw n cw : Nat) (evs : Value) : Array Value := #[.pointer (some ⟨y.ps, 0, none⟩), .slice (some ⟨gw, 0, none⟩) n cw, .slice (some ⟨y.bp, 0, none⟩) nr nr, .slice (some ⟨y.bl, 0, none⟩) y.lk y.lk, .slice (some ⟨y.bg, 0, none⟩) y.gr y.gr, .slice (some ⟨y.bc, 0, none⟩) y.ce y.ce, evs]
def instC (f : Nat → Int) : Array Value := #[.int .i64 (f 0), .int .i64 (f 1), .int .i64 (f 2), .int .i64 (f 3)]
def instV : Option (Nat → Int) → Array Value
 | none => instC fun _ => 0
 | some f => instC f
theorem instC_get (f : Nat → Int) (j : Nat) (h : j < 4) : (instC f)[j]? = some (.int .i64 (f j)) := by
 match j, h with
 | 0, _ => rfl
 | 1, _ => rfl
 | 2, _ => rfl
 | 3, _ => rfl
theorem mod_twice (v : Int) (c : Nat) (h : 0 < c) (h' : c ≤ 64) : (wrap64 (v.tmod c + c)).tmod c = v % (c : Int) := by
 have h0 : (0 : Int) < c := by omega
 have h1 := Int.tmod_lt_of_pos v h0
 have h2 := Int.lt_tmod_of_pos v h0
 have e : wrap64 (v.tmod c + c) = v.tmod c + c := IntWalk.wrap64_in _ (by omega)
 rw [e, Int.tmod_eq_emod_of_nonneg (by omega), Int.add_emod_right]
 have h3 := Int.mul_tdiv_add_tmod v c
 conv => rhs; rw [← h3, Int.add_comm, Int.add_mul_emod_self_left]
theorem instC_cell (f : Nat → Int) : ∀ v ∈ (instC f).toList, v.oneCell' = true := by
 intro v hv
 simp [instC] at hv
 rcases hv with rfl | rfl | rfl | rfl <;> rfl
section
variable {w W : World} {S : Sys} {A : Option Addr} {c : Nat} {R : Option Addr} {d : Nat} {y : Ly} {gw n cw : Nat} {cur : Array Value} {evs : Value} {rs : Nat → Rn}
set_option maxRecDepth 100000 in
set_option maxHeartbeats 1000000 in
theorem wnext_any (hw : Blk W y.wp 110 (wpC y S.nr gw n cw evs)) (hg : Blk W gw 174 cur) (hs : Blk W y.ps 27 (sysV S A c R d)) (hS : SysIn W S A c R d) (hC : WhoC cur n rs) {k : Nat} (hk : k < n) (hp : (rs k).prog < S.np) :
   Calls Try.prog 103 #[.pointer (some ⟨y.wp, 0, none⟩), .pointer (some ⟨gw, k * 10, none⟩)] W fun e W' => e = .returned (.tuple #[.agg (instV (instP S (rs k))), .bool (instP S (rs k)).isSome]) ∧ Keeps W W' [] := by
 have O := Own.start W []
 obtain ⟨ad, rfl, hb, hpr⟩ := hS.progs (by omega)
 obtain ⟨B, cB, h1, h2, h3, hI⟩ := hpr _ hp
 have hq : (S.lp (rs k).prog : Int) ≤ 9223372036854775807 := by simp only [maxLen] at h3; omega
 have HW := Lib.hid hw
 have HG := Lib.hid hg
 have HS := Lib.hid hs
 have HC := Lib.hid hC
 have HK := Lib.hid hk
 have H1 := Lib.hid h1
 have HB := Lib.hid hb
 have HI := Lib.hid hI
 have g1 : ((rs k).prog : Int) < S.np := by omega
 have g2 : (0 : Int) ≤ (rs k).prog := by omega
 have HR := Lib.hid (show instP S (rs k) = if (rs k).pos < S.lp (rs k).prog then some (S.q (rs k).prog (rs k).pos) else none from rfl)
 clear hw hg hs hS hC hk h1 hb hI hpr h2 h3 hp
 generalize hr : instP S (rs k) = r at HR ⊢
 clear hr
 by_cases hlt : (rs k).pos < S.lp (rs k).prog
 · have HF := Lib.hid (show r = some (S.q (rs k).prog (rs k).pos) by rw [HR.out, if_pos hlt])
   obtain ⟨bd, rfl, hbb, hi⟩ := HI.out (by omega)
   have HJ := Lib.hid (hi (rs k).pos)
   have HBB := Lib.hid hbb
   have g3 : ((rs k).pos : Int) < S.lp (rs k).prog := by omega
   have g4 : (0 : Int) ≤ (rs k).pos := by omega
   have g5 : ¬ (S.lp (rs k).prog : Int) ≤ (rs k).pos := by omega
   clear hi hbb hlt
   go_enter Try.func103, Try.ntmps103
   go_wp2_with (first
     | go_big_skip
     | (refine own_alloc 4 (instC fun _ => 0) O rfl rfl rfl (fun _ => by kernel_rfl) ?_; clear O; intro V a4 O; simp only [Act.put, kA, kZ, kS]))
   have K0 := O.keep
   have cw : ∀ (p : Later V) i, p.1.cell? ⟨y.wp, i, none⟩ = #[Value.pointer (some ⟨y.ps, 0, none⟩), .slice (some ⟨gw, 0, none⟩) n cw, .slice (some ⟨y.bp, 0, none⟩) S.nr S.nr, .slice (some ⟨y.bl, 0, none⟩) y.lk y.lk, .slice (some ⟨y.bg, 0, none⟩) y.gr y.gr, .slice (some ⟨y.bc, 0, none⟩) y.ce y.ce, evs][i]? := Later.cell (HW.out.keeps K0 (by simp))
   have cs : ∀ (p : Later V) i, p.1.cell? ⟨y.ps, i, none⟩ = #[Value.slice (some ad) S.np c, .slice R S.nr d, .int .i64 S.gr, .int .i64 S.lk, .int .i64 S.ce][i]? := Later.cell (HS.out.keeps K0 (by simp))
   have c1 : ∀ p : Later V, p.1.cell? ⟨gw, k * 10, none⟩ = some (.int .i64 (rs k).prog) := fun p => (Later.cell (HG.out.keeps K0 (by simp)) p _).trans (HC.out.prog HK.out)
   have c3 : ∀ p : Later V, p.1.cell? (ad.add (rs k).prog) = some (.slice (some bd) (S.lp (rs k).prog) cB) := fun p => ((K0.trans p.2 (by simp)).cellAt (by rw [add_block]; exact HB.out) (by simp)).trans H1.out
   refine wp_quiet_later (by kernel_rfl) (by kernel_rfl) ?_
   repeat (first | go_big_quiet_skip | go_big_quiet_step (fail))
   refine kq fun p' => ?_
   replace O := O.keeps p'.2
   clear cw cs c1 c3 K0
   generalize p'.1 = V at O ⊢
   have K0 := O.keep
   have c2 : V.cell? ⟨gw, k * 10 + 1, none⟩ = some (.int .i64 (rs k).pos) := ((HG.out.keeps K0 (by simp)).cell _).trans (HC.out.pos HK.out)
   have HL := Lib.hid (show ∀ j, j < 4 → V.cell? (bd.add ((rs k).pos * 4 + j)) = some (.int .i64 (S.q (rs k).prog (rs k).pos j)) from fun j hj => (K0.cellAt (by rw [add_block]; exact HBB.out) (by simp)).trans (HJ.out j (by omega) hj))
   clear K0
   go_wp2_with (first
     | go_big_skip
     | (refine wpList_load_at 34 (cs := instC (S.q (rs k).prog (rs k).pos)) rfl rfl rfl rfl ?_ Try.underlying99 rfl (by kernel_rfl) ?_; exact (fun j hj => by rw [Addr.add_add]; exact (HL.out j hj).trans (instC_get _ _ hj).symm); simp only [Act.put, kA, kZ, kS])
     | (refine own_store_row 0 (.tmp 4) (.tmp 34) O rfl rfl rfl rfl rfl rfl (by kernel_rfl) (by rfl) (instC_cell _) ?_; clear O; intro V O; simp only [kZ] at O))
   clear c2
   rw [HF.out]
   refine bodyPost_ret (v := .tuple #[.agg (instC (S.q (rs k).prog (rs k).pos)), .bool true]) (results_cell_tmp rfl _ _ a4 99 _ _ rfl (O.get 0 rfl) Try.underlying99 rfl (by kernel_rfl) _ rfl) rfl ⟨rfl, O.keep⟩
 · have HF := Lib.hid (show r = none by rw [HR.out, if_neg hlt])
   have g3 : (S.lp (rs k).prog : Int) ≤ (rs k).pos := by omega
   clear hlt
   go_enter Try.func103, Try.ntmps103
   go_wp2_with (first
     | go_big_skip
     | (refine own_alloc 4 (instC fun _ => 0) O rfl rfl rfl (fun _ => by kernel_rfl) ?_; clear O; intro V a4 O; simp only [Act.put, kA, kZ, kS]))
   have K0 := O.keep
   have cw : ∀ (p : Later V) i, p.1.cell? ⟨y.wp, i, none⟩ = #[Value.pointer (some ⟨y.ps, 0, none⟩), .slice (some ⟨gw, 0, none⟩) n cw, .slice (some ⟨y.bp, 0, none⟩) S.nr S.nr, .slice (some ⟨y.bl, 0, none⟩) y.lk y.lk, .slice (some ⟨y.bg, 0, none⟩) y.gr y.gr, .slice (some ⟨y.bc, 0, none⟩) y.ce y.ce, evs][i]? := Later.cell (HW.out.keeps K0 (by simp))
   have cs : ∀ (p : Later V) i, p.1.cell? ⟨y.ps, i, none⟩ = #[Value.slice (some ad) S.np c, .slice R S.nr d, .int .i64 S.gr, .int .i64 S.lk, .int .i64 S.ce][i]? := Later.cell (HS.out.keeps K0 (by simp))
   have c1 : ∀ p : Later V, p.1.cell? ⟨gw, k * 10, none⟩ = some (.int .i64 (rs k).prog) := fun p => (Later.cell (HG.out.keeps K0 (by simp)) p _).trans (HC.out.prog HK.out)
   have c3 : ∀ p : Later V, p.1.cell? (ad.add (rs k).prog) = some (.slice B (S.lp (rs k).prog) cB) := fun p => ((K0.trans p.2 (by simp)).cellAt (by rw [add_block]; exact HB.out) (by simp)).trans H1.out
   refine wp_quiet_later (by kernel_rfl) (by kernel_rfl) ?_
   repeat (first | go_big_quiet_skip | go_big_quiet_step (fail))
   refine kq fun p' => ?_
   replace O := O.keeps p'.2
   clear cw cs c1 c3 K0
   generalize p'.1 = V at O ⊢
   have K0 := O.keep
   have c2 : V.cell? ⟨gw, k * 10 + 1, none⟩ = some (.int .i64 (rs k).pos) := ((HG.out.keeps K0 (by simp)).cell _).trans (HC.out.pos HK.out)
   clear K0
   go_wp2_with (first
     | go_big_skip
     | (refine wpList_const 27 (.agg (instC fun _ => 0)) rfl rfl (fun _ => by kernel_rfl) ?_; simp only [Act.put, kA, kZ, kS])
     | (refine own_store_row 0 (.tmp 4) (.tmp 27) O rfl rfl rfl rfl rfl rfl (by kernel_rfl) (by rfl) (instC_cell _) ?_; clear O; intro V O; simp only [kZ] at O))
   clear c2
   rw [HF.out]
   refine bodyPost_ret (v := .tuple #[.agg (instC fun _ => 0), .bool false]) (results_cell_tmp rfl _ _ a4 99 _ _ rfl (O.get 0 rfl) Try.underlying99 rfl (by kernel_rfl) _ rfl) rfl ⟨rfl, O.keep⟩
set_option maxRecDepth 100000 in
theorem wcell_any (hw : Blk W y.wp 110 (wpC y S.nr gw n cw evs)) (v : Int) (hce : 0 < y.ce) (hc : y.ce ≤ 64) : Calls Try.prog 107 #[.pointer (some ⟨y.wp, 0, none⟩), .int .i64 v] W fun e W' => e = .returned (.int .i64 (v % (y.ce : Int))) ∧ Keeps W W' [] := by
 have cw : ∀ (p : Later W) i, p.1.cell? ⟨y.wp, i, none⟩ = #[Value.pointer (some ⟨y.ps, 0, none⟩), .slice (some ⟨gw, 0, none⟩) n cw, .slice (some ⟨y.bp, 0, none⟩) S.nr S.nr, .slice (some ⟨y.bl, 0, none⟩) y.lk y.lk, .slice (some ⟨y.bg, 0, none⟩) y.gr y.gr, .slice (some ⟨y.bc, 0, none⟩) y.ce y.ce, evs][i]? := Later.cell hw
 have hm := mod_twice v y.ce hce hc
 have O := Own.start W []
 clear hw
 go_enter Try.func107, Try.ntmps107
 go_wp2_with (first
   | go_big_skip)
 refine wp_quiet_later (by kernel_rfl) (by kernel_rfl) ?_
 repeat (first | go_big_quiet_skip | go_big_quiet_step (fail))
 refine kq fun p' => ?_
 replace O := O.keeps p'.2
 clear cw
 generalize p'.1 = V at O ⊢
 go_wp2
 go_ret
 exact ⟨rfl, O.keep⟩
end
open Go.RowKit Go.Maps Go.Deep
section
variable {w W : World} {S : Sys} {A : Option Addr} {c : Nat} {R : Option Addr} {d : Nat} {y : Ly} {gw n cw base : Nat} {cur : Array Value} {evs : Value} {rs : Nat → Rn} {hv : Nat → Value} {cl : Nat → Bool} {lk : Int → Bool} {gr : Int → Int}
set_option maxRecDepth 100000 in
theorem wcan_5c (hw : Blk W y.wp 110 (wpC y S.nr gw n cw evs)) (hb : Blk W y.bp 186 (pipesA S.nr hv cl)) {aN : Nat} (ha : aN < S.nr) (hcl : cl aN = true) (f2 f3 : Int) : Calls Try.prog 104 #[.pointer (some ⟨y.wp, 0, none⟩), .agg #[.int .i64 5, .int .i64 (aN : Int), .int .i64 f2, .int .i64 f3]] W fun e W' => e = .returned (.bool (true)) ∧ Keeps W W' [] := by
 have O := Own.start W []
 have HW := Lib.hid hw
 have HB := Lib.hid hb
 have g1 : (aN : Int) < S.nr := by omega
 have g2 : (0 : Int) ≤ aN := by omega
 clear hw hb
 go_enter Try.func104, Try.ntmps104
 go_wp2_with (first
   | go_big_skip
   | (refine own_box 3 #[Value.int .i64 5, .int .i64 (aN : Int), .int .i64 f2, .int .i64 f3] O rfl rfl rfl rfl ?_; clear O; intro V a3 O; simp only [Act.put, kA, kZ, kS]; have c0 : V.cell? ⟨a3, 0, none⟩ = some (.int .i64 5) := (O.get 0 rfl).cell 0))
 have K0 := O.keep
 have cw : ∀ (p : Later V) i, p.1.cell? ⟨y.wp, i, none⟩ = #[Value.pointer (some ⟨y.ps, 0, none⟩), .slice (some ⟨gw, 0, none⟩) n cw, .slice (some ⟨y.bp, 0, none⟩) S.nr S.nr, .slice (some ⟨y.bl, 0, none⟩) y.lk y.lk, .slice (some ⟨y.bg, 0, none⟩) y.gr y.gr, .slice (some ⟨y.bc, 0, none⟩) y.ce y.ce, evs][i]? := Later.cell (HW.out.keeps K0 (by simp))
 have ci : ∀ (p : Later V) i, p.1.cell? ⟨a3, i, none⟩ = #[Value.int .i64 5, .int .i64 (aN : Int), .int .i64 f2, .int .i64 f3][i]? := Later.cell (O.get 0 rfl)
 have cp : ∀ p : Later V, p.1.cell? ⟨y.bp, aN * 2 + 1, none⟩ = some (.bool true) := fun p => (Later.cell (HB.out.keeps K0 (by simp)) p _).trans ((pipesA_cl _ _ _ _ ha).trans (by rw [hcl]))
 have ak := add_zero_ y.bp (aN * 2)
 refine wp_quiet_later (by kernel_rfl) (by kernel_rfl) ?_
 repeat (first | go_big_quiet_skip | go_big_quiet_step (fail))
 refine kq fun p' => ?_
 replace O := O.keeps p'.2
 clear c0 cw ci K0 cp ak
 generalize p'.1 = V at O ⊢
 go_wp2
 go_ret
 exact ⟨rfl, O.keep⟩
set_option maxRecDepth 100000 in
theorem wcan_6c (hw : Blk W y.wp 110 (wpC y S.nr gw n cw evs)) (hb : Blk W y.bp 186 (pipesA S.nr hv cl)) {aN : Nat} (ha : aN < S.nr) (hcl : cl aN = true) (f2 f3 : Int) : Calls Try.prog 104 #[.pointer (some ⟨y.wp, 0, none⟩), .agg #[.int .i64 6, .int .i64 (aN : Int), .int .i64 f2, .int .i64 f3]] W fun e W' => e = .returned (.bool (true)) ∧ Keeps W W' [] := by
 have O := Own.start W []
 have HW := Lib.hid hw
 have HB := Lib.hid hb
 have g1 : (aN : Int) < S.nr := by omega
 have g2 : (0 : Int) ≤ aN := by omega
 clear hw hb
 go_enter Try.func104, Try.ntmps104
 go_wp2_with (first
   | go_big_skip
   | (refine own_box 3 #[Value.int .i64 6, .int .i64 (aN : Int), .int .i64 f2, .int .i64 f3] O rfl rfl rfl rfl ?_; clear O; intro V a3 O; simp only [Act.put, kA, kZ, kS]; have c0 : V.cell? ⟨a3, 0, none⟩ = some (.int .i64 6) := (O.get 0 rfl).cell 0))
 have K0 := O.keep
 have cw : ∀ (p : Later V) i, p.1.cell? ⟨y.wp, i, none⟩ = #[Value.pointer (some ⟨y.ps, 0, none⟩), .slice (some ⟨gw, 0, none⟩) n cw, .slice (some ⟨y.bp, 0, none⟩) S.nr S.nr, .slice (some ⟨y.bl, 0, none⟩) y.lk y.lk, .slice (some ⟨y.bg, 0, none⟩) y.gr y.gr, .slice (some ⟨y.bc, 0, none⟩) y.ce y.ce, evs][i]? := Later.cell (HW.out.keeps K0 (by simp))
 have ci : ∀ (p : Later V) i, p.1.cell? ⟨a3, i, none⟩ = #[Value.int .i64 6, .int .i64 (aN : Int), .int .i64 f2, .int .i64 f3][i]? := Later.cell (O.get 0 rfl)
 have cp : ∀ p : Later V, p.1.cell? ⟨y.bp, aN * 2 + 1, none⟩ = some (.bool true) := fun p => (Later.cell (HB.out.keeps K0 (by simp)) p _).trans ((pipesA_cl _ _ _ _ ha).trans (by rw [hcl]))
 have ak := add_zero_ y.bp (aN * 2)
 refine wp_quiet_later (by kernel_rfl) (by kernel_rfl) ?_
 repeat (first | go_big_quiet_skip | go_big_quiet_step (fail))
 refine kq fun p' => ?_
 replace O := O.keeps p'.2
 clear c0 cw ci K0 cp ak
 generalize p'.1 = V at O ⊢
 go_wp2
 go_ret
 exact ⟨rfl, O.keep⟩
set_option maxRecDepth 100000 in
theorem wcan_6o (hw : Blk W y.wp 110 (wpC y S.nr gw n cw evs)) (hb : Blk W y.bp 186 (pipesA S.nr hv cl)) {aN : Nat} (ha : aN < S.nr) (hcl : cl aN = false) {L c0' : Nat} {A0 : Option Addr} (hh : hv aN = .slice A0 L c0') (f2 f3 : Int) : Calls Try.prog 104 #[.pointer (some ⟨y.wp, 0, none⟩), .agg #[.int .i64 6, .int .i64 (aN : Int), .int .i64 f2, .int .i64 f3]] W fun e W' => e = .returned (.bool (decide (0 < L))) ∧ Keeps W W' [] := by
 have O := Own.start W []
 have HW := Lib.hid hw
 have HB := Lib.hid hb
 have g1 : (aN : Int) < S.nr := by omega
 have g2 : (0 : Int) ≤ aN := by omega
 clear hw hb
 go_enter Try.func104, Try.ntmps104
 go_wp2_with (first
   | go_big_skip
   | (refine own_box 3 #[Value.int .i64 6, .int .i64 (aN : Int), .int .i64 f2, .int .i64 f3] O rfl rfl rfl rfl ?_; clear O; intro V a3 O; simp only [Act.put, kA, kZ, kS]; have c0 : V.cell? ⟨a3, 0, none⟩ = some (.int .i64 6) := (O.get 0 rfl).cell 0))
 have K0 := O.keep
 have cw : ∀ (p : Later V) i, p.1.cell? ⟨y.wp, i, none⟩ = #[Value.pointer (some ⟨y.ps, 0, none⟩), .slice (some ⟨gw, 0, none⟩) n cw, .slice (some ⟨y.bp, 0, none⟩) S.nr S.nr, .slice (some ⟨y.bl, 0, none⟩) y.lk y.lk, .slice (some ⟨y.bg, 0, none⟩) y.gr y.gr, .slice (some ⟨y.bc, 0, none⟩) y.ce y.ce, evs][i]? := Later.cell (HW.out.keeps K0 (by simp))
 have ci : ∀ (p : Later V) i, p.1.cell? ⟨a3, i, none⟩ = #[Value.int .i64 6, .int .i64 (aN : Int), .int .i64 f2, .int .i64 f3][i]? := Later.cell (O.get 0 rfl)
 have cp : ∀ p : Later V, p.1.cell? ⟨y.bp, aN * 2 + 1, none⟩ = some (.bool false) := fun p => (Later.cell (HB.out.keeps K0 (by simp)) p _).trans ((pipesA_cl _ _ _ _ ha).trans (by rw [hcl]))
 have ak := add_zero_ y.bp (aN * 2)
 have ch : ∀ p : Later V, p.1.cell? ⟨y.bp, aN * 2, none⟩ = some (.slice A0 L c0') := fun p => (Later.cell (HB.out.keeps K0 (by simp)) p _).trans ((pipesA_hv _ _ _ _ ha).trans (by rw [hh]))
 refine wp_quiet_later (by kernel_rfl) (by kernel_rfl) ?_
 repeat (first | go_big_quiet_skip | go_big_quiet_step (fail))
 refine kq fun p' => ?_
 replace O := O.keeps p'.2
 clear c0 cw ci K0 cp ak ch
 generalize p'.1 = V at O ⊢
 go_wp2
 go_ret
 exact ⟨rfl, O.keep⟩
set_option maxRecDepth 100000 in
theorem wcan_5o (hw : Blk W y.wp 110 (wpC y S.nr gw n cw evs)) (hb : Blk W y.bp 186 (pipesA S.nr hv cl)) (hs : Blk W y.ps 27 (sysV S A c R d)) (hS : SysIn W S A c R d) {aN : Nat} (ha : aN < S.nr) (hcl : cl aN = false) {L c0' : Nat} {A0 : Option Addr} (hh : hv aN = .slice A0 L c0') (f2 f3 : Int) : Calls Try.prog 104 #[.pointer (some ⟨y.wp, 0, none⟩), .agg #[.int .i64 5, .int .i64 (aN : Int), .int .i64 f2, .int .i64 f3]] W fun e W' => e = .returned (.bool (decide ((L : Int) < S.rm aN))) ∧ Keeps W W' [] := by
 have O := Own.start W []
 have HW := Lib.hid hw
 have HB := Lib.hid hb
 have g1 : (aN : Int) < S.nr := by omega
 have g2 : (0 : Int) ≤ aN := by omega
 obtain ⟨rd, rfl, hrb, hrc⟩ := hS.rooms (by omega)
 have HRB := Lib.hid hrb
 have HR := Lib.hid hrc
 have HS := Lib.hid hs
 clear hw hb hs hS hrb hrc
 go_enter Try.func104, Try.ntmps104
 go_wp2_with (first
   | go_big_skip
   | (refine own_box 3 #[Value.int .i64 5, .int .i64 (aN : Int), .int .i64 f2, .int .i64 f3] O rfl rfl rfl rfl ?_; clear O; intro V a3 O; simp only [Act.put, kA, kZ, kS]; have c0 : V.cell? ⟨a3, 0, none⟩ = some (.int .i64 5) := (O.get 0 rfl).cell 0))
 have K0 := O.keep
 have cw : ∀ (p : Later V) i, p.1.cell? ⟨y.wp, i, none⟩ = #[Value.pointer (some ⟨y.ps, 0, none⟩), .slice (some ⟨gw, 0, none⟩) n cw, .slice (some ⟨y.bp, 0, none⟩) S.nr S.nr, .slice (some ⟨y.bl, 0, none⟩) y.lk y.lk, .slice (some ⟨y.bg, 0, none⟩) y.gr y.gr, .slice (some ⟨y.bc, 0, none⟩) y.ce y.ce, evs][i]? := Later.cell (HW.out.keeps K0 (by simp))
 have ci : ∀ (p : Later V) i, p.1.cell? ⟨a3, i, none⟩ = #[Value.int .i64 5, .int .i64 (aN : Int), .int .i64 f2, .int .i64 f3][i]? := Later.cell (O.get 0 rfl)
 have cp : ∀ p : Later V, p.1.cell? ⟨y.bp, aN * 2 + 1, none⟩ = some (.bool false) := fun p => (Later.cell (HB.out.keeps K0 (by simp)) p _).trans ((pipesA_cl _ _ _ _ ha).trans (by rw [hcl]))
 have ak := add_zero_ y.bp (aN * 2)
 have ch : ∀ p : Later V, p.1.cell? ⟨y.bp, aN * 2, none⟩ = some (.slice A0 L c0') := fun p => (Later.cell (HB.out.keeps K0 (by simp)) p _).trans ((pipesA_hv _ _ _ _ ha).trans (by rw [hh]))
 have cs : ∀ (p : Later V) i, p.1.cell? ⟨y.ps, i, none⟩ = #[Value.slice A S.np c, .slice (some rd) S.nr d, .int .i64 S.gr, .int .i64 S.lk, .int .i64 S.ce][i]? := Later.cell (HS.out.keeps K0 (by simp))
 have cr : ∀ p : Later V, p.1.cell? (rd.add aN) = some (.int .i64 (S.rm aN)) := fun p => ((K0.trans p.2 (by simp)).cellAt (by rw [add_block]; exact HRB.out) (by simp)).trans (HR.out aN ha)
 refine wp_quiet_later (by kernel_rfl) (by kernel_rfl) ?_
 repeat (first | go_big_quiet_skip | go_big_quiet_step (fail))
 refine kq fun p' => ?_
 replace O := O.keeps p'.2
 clear c0 cw ci K0 cp ak ch cs cr
 generalize p'.1 = V at O ⊢
 go_wp2
 go_ret
 exact ⟨rfl, O.keep⟩
set_option maxRecDepth 100000 in
theorem wcan_8 (hw : Blk W y.wp 110 (wpC y S.nr gw n cw evs)) (hl : Blk W y.bl 4 (arrB y.lk lk)) {aN : Nat} (ha : aN < y.lk) (f2 f3 : Int) : Calls Try.prog 104 #[.pointer (some ⟨y.wp, 0, none⟩), .agg #[.int .i64 8, .int .i64 (aN : Int), .int .i64 f2, .int .i64 f3]] W fun e W' => e = .returned (.bool (!lk aN)) ∧ Keeps W W' [] := by
 have O := Own.start W []
 have HW := Lib.hid hw
 have HL := Lib.hid hl
 have g1 : (aN : Int) < y.lk := by omega
 have g2 : (0 : Int) ≤ aN := by omega
 clear hw hl
 go_enter Try.func104, Try.ntmps104
 go_wp2_with (first
   | go_big_skip
   | (refine own_box 3 #[Value.int .i64 8, .int .i64 (aN : Int), .int .i64 f2, .int .i64 f3] O rfl rfl rfl rfl ?_; clear O; intro V a3 O; simp only [Act.put, kA, kZ, kS]; have c0 : V.cell? ⟨a3, 0, none⟩ = some (.int .i64 8) := (O.get 0 rfl).cell 0))
 have K0 := O.keep
 have cw : ∀ (p : Later V) i, p.1.cell? ⟨y.wp, i, none⟩ = #[Value.pointer (some ⟨y.ps, 0, none⟩), .slice (some ⟨gw, 0, none⟩) n cw, .slice (some ⟨y.bp, 0, none⟩) S.nr S.nr, .slice (some ⟨y.bl, 0, none⟩) y.lk y.lk, .slice (some ⟨y.bg, 0, none⟩) y.gr y.gr, .slice (some ⟨y.bc, 0, none⟩) y.ce y.ce, evs][i]? := Later.cell (HW.out.keeps K0 (by simp))
 have ci : ∀ (p : Later V) i, p.1.cell? ⟨a3, i, none⟩ = #[Value.int .i64 8, .int .i64 (aN : Int), .int .i64 f2, .int .i64 f3][i]? := Later.cell (O.get 0 rfl)
 have cl : ∀ p : Later V, p.1.cell? ⟨y.bl, aN, none⟩ = some (.bool (lk aN)) := fun p => (Later.cell (HL.out.keeps K0 (by simp)) p _).trans (arrB_get _ _ _ ha)
 have ak := add_zero_ y.bl aN
 refine wp_quiet_later (by kernel_rfl) (by kernel_rfl) ?_
 repeat (first | go_big_quiet_skip | go_big_quiet_step (fail))
 refine kq fun p' => ?_
 replace O := O.keeps p'.2
 clear c0 cw ci K0 cl ak
 generalize p'.1 = V at O ⊢
 go_wp2
 go_ret
 exact ⟨rfl, O.keep⟩
set_option maxRecDepth 100000 in
theorem wcan_11 (hw : Blk W y.wp 110 (wpC y S.nr gw n cw evs)) (hl : Blk W y.bg 3 (arrI y.gr gr)) {aN : Nat} (ha : aN < y.gr) (f2 f3 : Int) : Calls Try.prog 104 #[.pointer (some ⟨y.wp, 0, none⟩), .agg #[.int .i64 11, .int .i64 (aN : Int), .int .i64 f2, .int .i64 f3]] W fun e W' => e = .returned (.bool (decide (gr aN = 0))) ∧ Keeps W W' [] := by
 have O := Own.start W []
 have HW := Lib.hid hw
 have HL := Lib.hid hl
 have g1 : (aN : Int) < y.gr := by omega
 have g2 : (0 : Int) ≤ aN := by omega
 clear hw hl
 go_enter Try.func104, Try.ntmps104
 go_wp2_with (first
   | go_big_skip
   | (refine own_box 3 #[Value.int .i64 11, .int .i64 (aN : Int), .int .i64 f2, .int .i64 f3] O rfl rfl rfl rfl ?_; clear O; intro V a3 O; simp only [Act.put, kA, kZ, kS]; have c0 : V.cell? ⟨a3, 0, none⟩ = some (.int .i64 11) := (O.get 0 rfl).cell 0))
 have K0 := O.keep
 have cw : ∀ (p : Later V) i, p.1.cell? ⟨y.wp, i, none⟩ = #[Value.pointer (some ⟨y.ps, 0, none⟩), .slice (some ⟨gw, 0, none⟩) n cw, .slice (some ⟨y.bp, 0, none⟩) S.nr S.nr, .slice (some ⟨y.bl, 0, none⟩) y.lk y.lk, .slice (some ⟨y.bg, 0, none⟩) y.gr y.gr, .slice (some ⟨y.bc, 0, none⟩) y.ce y.ce, evs][i]? := Later.cell (HW.out.keeps K0 (by simp))
 have ci : ∀ (p : Later V) i, p.1.cell? ⟨a3, i, none⟩ = #[Value.int .i64 11, .int .i64 (aN : Int), .int .i64 f2, .int .i64 f3][i]? := Later.cell (O.get 0 rfl)
 have cl : ∀ p : Later V, p.1.cell? ⟨y.bg, aN, none⟩ = some (.int .i64 (gr aN)) := fun p => (Later.cell (HL.out.keeps K0 (by simp)) p _).trans (arrI_get _ _ _ ha)
 have ak := add_zero_ y.bg aN
 refine wp_quiet_later (by kernel_rfl) (by kernel_rfl) ?_
 repeat (first | go_big_quiet_skip | go_big_quiet_step (fail))
 refine kq fun p' => ?_
 replace O := O.keeps p'.2
 clear c0 cw ci K0 cl ak
 generalize p'.1 = V at O ⊢
 go_wp2
 go_ret
 exact ⟨rfl, O.keep⟩
set_option maxRecDepth 100000 in
theorem wcan_else (f : Nat → Int) (h5 : ¬ f 0 = 5) (h6 : ¬ f 0 = 6) (h8 : ¬ f 0 = 8) (h11 : ¬ f 0 = 11) : Calls Try.prog 104 #[.pointer (some ⟨y.wp, 0, none⟩), .agg #[.int .i64 (f 0), .int .i64 (f 1), .int .i64 (f 2), .int .i64 (f 3)]] W fun e W' => e = .returned (.bool true) ∧ Keeps W W' [] := by
 have O := Own.start W []
 have e5 : (f 0 == 5) = false := by simpa using h5
 have e6 : (f 0 == 6) = false := by simpa using h6
 have e8 : (f 0 == 8) = false := by simpa using h8
 have e11 : (f 0 == 11) = false := by simpa using h11
 clear h5 h6 h8 h11
 go_enter Try.func104, Try.ntmps104
 go_wp2_with (first
   | go_big_skip
   | (refine own_box 3 #[Value.int .i64 (f 0), .int .i64 (f 1), .int .i64 (f 2), .int .i64 (f 3)] O rfl rfl rfl rfl ?_; clear O; intro V a3 O; simp only [Act.put, kA, kZ, kS]; have c0 : V.cell? ⟨a3, 0, none⟩ = some (.int .i64 (f 0)) := (O.get 0 rfl).cell 0))
 go_ret
 exact ⟨rfl, O.keep⟩
theorem wcan_any {P : PW} (hw : Blk W y.wp 110 (wpC y S.nr gw n cw evs)) (hb : Blk W y.bp 186 (pipesA S.nr hv P.cl)) (hl : Blk W y.bl 4 (arrB y.lk P.lk)) (hg : Blk W y.bg 3 (arrI y.gr P.gr)) (hs : Blk W y.ps 27 (sysV S A c R d)) (hS : SysIn W S A c R d)
   (hh : ∀ c, c < S.nr → HRow base W (hv c) (P.held c)) (hlk : S.lk = (y.lk : Int)) (hgr : S.gr = (y.gr : Int)) (f : Nat → Int) {p : Nat} (hr : rightS S p f = true) : Calls Try.prog 104 #[.pointer (some ⟨y.wp, 0, none⟩), .agg (instC f)] W fun e W' => e = .returned (.bool (canP S P f)) ∧ Keeps W W' [] := by
 unfold instC
 have key : ∀ aN : Nat, f 1 = aN → (f 1).toNat = aN := fun aN h => by omega
 by_cases o5 : f 0 = 5
 · have h1 := right_room hr (.inl o5)
   obtain ⟨aN, e⟩ : ∃ aN : Nat, f 1 = (aN : Int) := ⟨(f 1).toNat, by omega⟩
   have hc : canP S P f = (P.cl aN || decide (((P.held aN).length : Int) < S.rm aN)) := by unfold canP; rw [if_pos o5, key _ e]
   rw [hc, o5, e]
   cases h : P.cl aN with
   | true => exact wcan_5c hw hb (by omega) h _ _
   | false =>
     obtain ⟨A0, c0, h0, _⟩ := (hh aN (by omega)).cells
     exact wcan_5o hw hb hs hS (by omega) h h0 _ _
 by_cases o6 : f 0 = 6
 · have h1 := right_room hr (.inr (.inl o6))
   obtain ⟨aN, e⟩ : ∃ aN : Nat, f 1 = (aN : Int) := ⟨(f 1).toNat, by omega⟩
   have hc : canP S P f = (P.cl aN || decide (0 < (P.held aN).length)) := by unfold canP; rw [if_neg o5, if_pos o6, key _ e, show decide (0 < ((P.held aN).length : Int)) = decide (0 < (P.held aN).length) by simp]
   rw [hc, o6, e]
   cases h : P.cl aN with
   | true => exact wcan_6c hw hb (by omega) h _ _
   | false =>
     obtain ⟨A0, c0, h0, _⟩ := (hh aN (by omega)).cells
     exact wcan_6o hw hb (by omega) h h0 _ _
 by_cases o8 : f 0 = 8
 · have h1 := right_lock hr (.inl o8)
   obtain ⟨aN, e⟩ : ∃ aN : Nat, f 1 = (aN : Int) := ⟨(f 1).toNat, by omega⟩
   have hc : canP S P f = !P.lk aN := by unfold canP; rw [if_neg o5, if_neg o6, if_pos o8, e]
   rw [hc, o8, e]
   exact wcan_8 hw hl (by omega) _ _
 by_cases o11 : f 0 = 11
 · have h1 := right_group hr (.inr o11)
   obtain ⟨aN, e⟩ : ∃ aN : Nat, f 1 = (aN : Int) := ⟨(f 1).toNat, by omega⟩
   have hc : canP S P f = decide (P.gr aN = 0) := by unfold canP; rw [if_neg o5, if_neg o6, if_neg o8, if_pos o11, e]
   rw [hc, o11, e]
   exact wcan_11 hw hg (by omega) _ _
 have hc : canP S P f = true := by unfold canP; rw [if_neg o5, if_neg o6, if_neg o8, if_neg o11]
 rw [hc]
 exact wcan_else f o5 o6 o8 o11
end
open Go.RowKit Go.Maps Go.Deep
theorem info174 : ∃ i, Try.prog.info? 174 = some i ∧ i.zero = some (.agg (rnC ⟨0, 0, fun _ => 0⟩)) ∧ i.size = 10 ∧ i.bytes = 80 := by
 have h : (Try.prog.info? 174).map (fun i => (i.zero, i.size, i.bytes)) = some (some (.agg (rnC ⟨0, 0, fun _ => 0⟩)), 10, 80) := by kernel_rfl
 obtain ⟨i, hi, he⟩ := Option.map_eq_some_iff.1 h
 simp only [Prod.mk.injEq] at he
 exact ⟨i, hi, he.1, he.2.1, he.2.2⟩
section
variable {ops : Array Oper} {rest : List Oper} {o : Oper} {a : Act} {w W : World} {Q : Exit → Act → World → Prop} {L : List Ent} {r : Rw} {x0 s z : Operand}
theorem om_lit_ev (d : Nat) (e : Ev) (M : OM w W L r) (_hd : o.dst = some d) (hgd : o.guard = none) (ho : o.op = .buildSlice 31 1 #[(0, x0)]) (h0 : a.eval x0 = .agg (evC e))
   (h : ∀ u g, OM w u ((g, 37, evC e) :: L) r → wpList Try.prog ops Q rest (a.put o.dst (.slice (some ⟨g, 0, none⟩) 1 1)) u) : wpList Try.prog ops Q (o :: rest) a W := by
 obtain ⟨i, hi, hz, hs, hb⟩ := info37
 have k := (Keeps.refl W []).alloc (.cells (evC e) 37)
 refine wpList_buildSlice hgd 31 37 1 _ ho (evC e) i (.agg (evC ⟨0, 0, 0, 0, false⟩)) Try.underlying31 hi hz (by rw [hs]; decide) (by rw [hs]; decide) ?_ (h _ _ (M.add k (Blk.new _ _ _)))
 rw [hs]
 have e1 : ((#[(0, x0)] : Array (Nat × Operand)).map (fun (i, x) => (i, a.eval x))).toList = [(0, .agg (evC e))] := by simp [h0]
 rw [e1]
 have rr : Array.range 5 = #[0, 1, 2, 3, 4] := by decide
 simp [Instr.fill, rr, Value.cells, evC]
theorem om_lit_rn (d : Nat) (e : Rn) (M : OM w W L r) (_hd : o.dst = some d) (hgd : o.guard = none) (ho : o.op = .buildSlice 107 1 #[(0, x0)]) (h0 : a.eval x0 = .agg (rnC e))
   (h : ∀ u g, OM w u ((g, 174, rnC e) :: L) r → wpList Try.prog ops Q rest (a.put o.dst (.slice (some ⟨g, 0, none⟩) 1 1)) u) : wpList Try.prog ops Q (o :: rest) a W := by
 obtain ⟨i, hi, hz, hs, hb⟩ := info174
 have k := (Keeps.refl W []).alloc (.cells (rnC e) 174)
 refine wpList_buildSlice hgd 107 174 1 _ ho (rnC e) i (.agg (rnC ⟨0, 0, fun _ => 0⟩)) Try.underlying107 hi hz (by rw [hs]; decide) (by rw [hs]; decide) ?_ (h _ _ (M.add k (Blk.new _ _ _)))
 rw [hs]
 have e1 : ((#[(0, x0)] : Array (Nat × Operand)).map (fun (i, x) => (i, a.eval x))).toList = [(0, .agg (rnC e))] := by simp [h0]
 rw [e1]
 have rr : Array.range 10 = #[0, 1, 2, 3, 4, 5, 6, 7, 8, 9] := by decide
 simp [Instr.fill, rr, Value.cells, rnC]
theorem om_lit_int (d : Nat) (n0 : Int) (M : OM w W L r) (_hd : o.dst = some d) (hgd : o.guard = none) (ho : o.op = .buildSlice 25 1 #[(0, x0)]) (h0 : a.eval x0 = .int .i64 n0)
   (h : ∀ u g, OM w u ((g, 3, #[.int .i64 n0]) :: L) r → wpList Try.prog ops Q rest (a.put o.dst (.slice (some ⟨g, 0, none⟩) 1 1)) u) : wpList Try.prog ops Q (o :: rest) a W := by
 obtain ⟨i, hi, hz, hs, hb⟩ := info3
 have k := (Keeps.refl W []).alloc (.cells #[Value.int .i64 n0] 3)
 refine wpList_buildSlice hgd 25 3 1 _ ho #[.int .i64 n0] i (.int .i64 0) Try.underlying25 hi hz (by rw [hs]; decide) (by rw [hs]; decide) ?_ (h _ _ (M.add k (Blk.new _ _ _)))
 rw [hs]
 have e : ((#[(0, x0)] : Array (Nat × Operand)).map (fun (i, x) => (i, a.eval x))).toList = [(0, .int .i64 n0)] := by simp [h0]
 rw [e]
 have rr : Array.range 1 = #[0] := by decide
 simp [Instr.fill, rr, Value.cells]
theorem blk_news {W : World} {g t : Nat} {cs : Array Value} (h : Blk W g t cs) : ∀ j u, cs.toList[j]? = some u → W.cell? ((⟨g, 0, none⟩ : Addr).add j) = some u := fun j u hu => by
 rw [add_zero_, h.cell, ← Array.getElem?_toList]
 exact hu
theorem om_ev (e : Ev) (gl : Nat) (s z : Operand) (M : OM w W ((gl, 37, evC e) :: L) r) (hgd : o.guard = none) (ho : o.op = .call { callee := .builtin .append, args := #[s, z], argTypes := #[31, 31] })
   (hs : a.eval s = r.evs) (hz' : a.eval z = .slice (some ⟨gl, 0, none⟩) 1 1) (hn : r.E.length ≤ 100000)
   (h : ∀ A' c' u, OM w u L { r with evs := .slice A' (r.E.length + 1) c', E := r.E ++ [e] } → wpList Try.prog ops Q rest (a.put o.dst (.slice A' (r.E.length + 1) c')) u) : wpList Try.prog ops Q (o :: rest) a W := by
 obtain ⟨i, hi, hz, hsz, hby⟩ := info37
 have hb : w.heap.size ≤ W.heap.size := M.own.keep.size
 have hl : (evC e).toList.length = 1 * 5 := rfl
 obtain ⟨v', u, hr, h2, h3, _⟩ := run_append_own (P := Try.prog) W w.heap.size 31 o.type 37 i (.agg (evC ⟨0, 0, 0, 0, false⟩)) 5 40 Try.underlying31 hi hz hsz hby rfl (by decide) r.evs r.E.length _ M.evr ⟨gl, 0, none⟩ 1 1 (evC e).toList hl (blk_news (M.get 0 rfl)) (evC_cell e) (by simp only [maxLen]; omega) (by omega) hb
 have hf := append_fresh (w := W) (P := Try.prog) w.heap.size 31 o.type 37 i (.agg (evC ⟨0, 0, 0, 0, false⟩)) 5 40 Try.underlying31 hi hz hsz hby r.evs r.E.length _ M.evr ⟨gl, 0, none⟩ 1 1 (evC e).toList hl (blk_news (M.get 0 rfl)) (evC_cell e) (by simp only [maxLen]; omega) (by omega) (by omega) hr
 refine wpList_plain hgd fun K hK => ?_
 unfold Oper.wp execOp
 simp only [ho, resolve, invoke, builtin, Sem.run_bind, Sem.run_pure, Result.andThen_ok, List.map_toArray, List.map_cons, List.map_nil, hs, hz', hr]
 obtain ⟨A', c', rfl⟩ : ∃ A' c', v' = .slice A' (r.E.length + 1) c' := by
   rcases h2.2 with ⟨_, h0⟩ | ⟨g, cap, cur, h0, _⟩
   · omega
   · exact ⟨_, _, h0⟩
 exact hK _ _ (h _ _ _ ((M.tell h3 h2 hf).drop_ 1))
theorem om_push (y : Int) (gl c : Nat) (s z : Operand) (M : OM w W ((gl, 3, #[.int .i64 y]) :: L) r) (hgd : o.guard = none) (ho : o.op = .call { callee := .builtin .append, args := #[s, z], argTypes := #[25, 25] })
   (hc : c < r.nr) (hs : a.eval s = r.hv c) (hz' : a.eval z = .slice (some ⟨gl, 0, none⟩) 1 1) (hn : (r.held c).length ≤ 1000000)
   (h : ∀ A' m' c' u, OM w u L { r with hv := updN r.hv c (.slice A' m' c'), held := updN r.held c (r.held c ++ [y]) } → wpList Try.prog ops Q rest (a.put o.dst (.slice A' m' c')) u) : wpList Try.prog ops Q (o :: rest) a W := by
 have hb : w.heap.size ≤ W.heap.size := M.own.keep.size
 obtain ⟨v', u, hr, h2, h3, hf⟩ := run_push (w := W) w.heap.size o.type (r.hv c) (r.held c) (M.hr c hc) ⟨gl, 0, none⟩ 1 y ((M.get 0 rfl).cell 0) hb hn
 refine wpList_plain hgd fun K hK => ?_
 unfold Oper.wp execOp
 simp only [ho, resolve, invoke, builtin, Sem.run_bind, Sem.run_pure, Result.andThen_ok, List.map_toArray, List.map_cons, List.map_nil, hs, hz', hr]
 obtain ⟨A', m', c', rfl⟩ : ∃ A' m' c', v' = .slice A' m' c' := by
   rcases h2 with ⟨h0, _⟩ | ⟨g, off, cap, cur, h0, _⟩
   · exact ⟨_, _, _, h0⟩
   · exact ⟨_, _, _, h0⟩
 exact hK _ _ (h _ _ _ _ ((M.push hc h3 h2 hf).drop_ 1))
end
section
variable {w W : World} {L : List Ent} {r : Rw} {y : Ly} {nr gw n cw : Nat}
set_option maxRecDepth 100000 in
theorem tell_any (M : OM w W L r) {i j k pw pe : Nat} (e : Ev) (hi : L[i]? = some (pw, 104, #[.pointer (some ⟨y.wp, 0, none⟩)])) (hj : L[j]? = some (pe, 37, evC e)) (hk : L[k]? = some (y.wp, 110, wpC y nr gw n cw r.evs)) (hn : r.E.length ≤ 100000) :
   Calls Try.prog 105 #[.pointer (some ⟨pw, 0, none⟩), .pointer (some ⟨pe, 0, none⟩)] W fun ev W' => ev = .returned (.tuple #[]) ∧ ∃ v', OM w W' (L.set k (y.wp, 110, wpC y nr gw n cw v')) { r with evs := v', E := r.E ++ [e] } := by
 go_enter Try.func105, Try.ntmps105
 have HQ := Lib.hid (show ∀ u, Own w u [] L → u.cell? ⟨pw, 0, none⟩ = some (.pointer (some ⟨y.wp, 0, none⟩)) ∧ u.cell? ⟨y.wp, 6, none⟩ = some r.evs from fun u O => ⟨((O.get i hi).cell 0).trans rfl, ((O.get k hk).cell 6).trans rfl⟩)
 refine wp_headH (S := fun u => Own w u [] L) 8 (by kernel_rfl) (by kernel_rfl) ?_
 replace M := M.keeps (Keeps.refl _ _).drew
 refine ah_take (f := 2) (L' := #[true, true, true, true, true, true, false, false, false, false, false]) (by first | exact M.own | exact M.own.drop_ 1) [0, 1, 2, 3, 4, 5] [_, _, _, _, _, _] _ _ rfl (by decide) (by kernel_rfl) ?_
 simp only [List.getElem_toArray, List.getElem_cons_zero, List.getElem_cons_succ]
 repeat (first
   | (refine take_load 7 rfl (by rfl) rfl rfl (fun _ h => Own.get h j hj) Try.underlying37 rfl (by kernel_rfl) ?_; simp only [Act.put, kA, kZ, kS])
   | (refine take_pure (v := ?_) (by rfl) ?_ ?_; rotate_left; (· (intro w hSw; have q := HQ.out _ hSw; have q1 := q.1; have q2 := q.2; clear hSw q; go_simp; try with_reducible rfl)); simp only [Act.put, kA, kZ, kS]))
 refine takeA_done ?_
 refine ah_sole 6 #[true, true, true, true, true, true, true, false, false, false, false] rfl (by decide) (by kernel_rfl) ?_
 try simp only [List.getElem_toArray, List.getElem_cons_zero, List.getElem_cons_succ]
 go_wp2_with (refine om_lit_ev 8 e M rfl rfl rfl rfl ?_; clear M; intro V gl M; simp only [Act.put, kA, kZ, kS])
 (first | refine backA_intro2 (by first | exact M.own | exact M.own.drop_ 1) ?_ | refine backA_intro (by first | exact M.own | exact M.own.drop_ 1) ?_)
 refine ah_sole 7 #[true, true, true, true, true, true, true, true, false, false, false] rfl (by decide) (by kernel_rfl) ?_
 try simp only [List.getElem_toArray, List.getElem_cons_zero, List.getElem_cons_succ]
 go_wp2_with (at_builtin; refine om_ev e gl (.tmp 6) (.tmp 8) M rfl rfl rfl rfl hn ?_; clear M; intro A' c' V M; simp only [Act.put, kA, kZ, kS])
 (first | refine backA_intro2 (by first | exact M.own | exact M.own.drop_ 1) ?_ | refine backA_intro (by first | exact M.own | exact M.own.drop_ 1) ?_)
 refine ah_tail (by kernel_rfl) ?_
 simp only [List.drop]
 go_wp2_with (first
   | go_big_skip
   | (refine at_store (.tmp 11) (.tmp 9) rfl ?_; refine om_store k 6 (.slice A' (r.E.length + 1) c') (.tmp 11) (.tmp 9) M rfl rfl rfl rfl rfl hk (by show 6 < 7; omega) rfl rfl (by kernel_rfl) rfl ?_; clear M; intro V M))
 refine np_intro ?_
 go_wp2
 go_end0
 exact ⟨rfl, _, M⟩
theorem fail_any (M : OM w W L r) {i j k m pw pe pt : Nat} (e : Ev) (hi : L[i]? = some (pw, 104, #[.pointer (some ⟨y.wp, 0, none⟩)])) (hj : L[j]? = some (pe, 37, evC e)) (hk : L[k]? = some (y.wp, 110, wpC y nr gw n cw r.evs))
   (hm : L[m]? = some (pt, 1, #[.func (.func 105) #[] #[.pointer (some ⟨pw, 0, none⟩), .pointer (some ⟨pe, 0, none⟩)]])) (hn : r.E.length ≤ 100000) (x : Int) :
   Calls Try.prog 106 #[.int .i64 x, .pointer (some ⟨pt, 0, none⟩)] W fun ev W' => ev = .panicked [{ v := .iface 22 (.int .i64 x), recovered := false }] ∧ ∃ v', OM w W' (L.set k (y.wp, 110, wpC y nr gw n cw v')) { r with evs := v', E := r.E ++ [e] } := by
 have HT := Lib.hid (tell_any M e hi hj hk hn)
 go_enter Try.func106, Try.ntmps106
 have c0 : W.cell? ⟨pt, 0, none⟩ = some (.func (.func 105) #[] #[.pointer (some ⟨pw, 0, none⟩), .pointer (some ⟨pe, 0, none⟩)]) := ((M.get m hm).cell 0).trans rfl
 go_wp2_with (first
   | go_big_skip
   | (go_at_call 105; refine HT.out.mono ?_; rintro ev V ⟨rfl, v', M⟩; have HM := Lib.hid M; clear c0 M))
 exact ⟨rfl, rfl, _, HM.out⟩
end
end Go.Proofs.Ytakmcpadkanggaa

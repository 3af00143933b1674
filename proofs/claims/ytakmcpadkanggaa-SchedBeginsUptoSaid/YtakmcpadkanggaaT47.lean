/-
  The walk of SchedBegins.
-/
import Derived.Test.YtakmcpadkanggaaT46
import Derived.Test.YtakmcpadkanggaaHeld
import Derived.Laws.AppendOwnNone
namespace Go.Proofs.Ytakmcpadkanggaa
open Go.RowKit Go.Maps Go.Deep

section
variable {ops : Array Oper} {rest : List Oper} {o : Oper} {a : Act} {w W : World} {Q : Exit → Act → World → Prop} {S : List Nat} {L : List Ent} {x y : Operand}
/-- An empty row of one's own. -/
theorem mint_lit0 (base d : Nat) (O : Own w W S L) (_hd : o.dst = some d) (hgd : o.guard = none) (ho : o.op = .buildSlice 25 0 #[]) (hb : base ≤ W.heap.size)
    (h : ∀ u v, Own w u S L → Mint base u v [] → wpList Try.prog ops Q rest (a.put o.dst v) u) : wpList Try.prog ops Q (o :: rest) a W := by
  obtain ⟨i, hi, hz, hs, hby⟩ := info3
  have k := (Keeps.refl W []).alloc (.cells #[] 3)
  have hrun : (Instr.buildSlice 25 0 #[]).run Try.prog W = .ok (.slice (some ⟨W.heap.size, 0, none⟩) 0 0) (W.alloc (.cells #[] 3)) := by
    have r : Array.range 0 = #[] := by decide
    simp [Instr.buildSlice, run_underlying Try.underlying25, sizeOf, typeInfo, hi, newRow, Instr.fill, r]
  refine wpList_plain hgd fun K hK => ?_
  unfold Oper.wp execOp
  simp only [ho, Array.map_empty, List.map_toArray, List.map_nil, Sem.run_bind, hrun, Result.andThen_ok, Sem.run_pure]
  exact hK _ _ (h _ _ (O.keeps k) ⟨rfl, .inr ⟨W.heap.size, 0, #[], rfl, hb, Blk.new _ _ _, Nat.le_refl _, Nat.zero_le _, rfl, rfl⟩⟩)
/-- A row of one's own grows by a whole list. -/
theorem own_apps (base : Nat) (v : Value) (xs ys : List Int) (zv : Value) (s z : Operand) (O : Own w W S L) (hM : Mint base W v xs) (hgd : o.guard = none) (ho : o.op = .call { callee := .builtin .append, args := #[s, z], argTypes := #[25, 25] })
    (hs : a.eval s = v) (hz' : a.eval z = zv) (hI : IntL W zv ys) (h0 : ∀ n c, zv = .slice none n c → n = 0 ∧ c = 0) (hb : w.heap.size = base) (hL : ∀ q ∈ L, q.2.1 ≠ 3) (hn : xs.length + ys.length ≤ 5000000)
    (h : ∀ v' u, Own w u S L → Mint base u v' (xs ++ ys) → wpList Try.prog ops Q rest (a.put o.dst v') u) : wpList Try.prog ops Q (o :: rest) a W := by
  obtain ⟨i, hi, hz, hsz, hby⟩ := info3
  obtain ⟨A, c, rfl, hc⟩ := hI
  rcases A with _ | ad
  · obtain ⟨hn0, rfl⟩ := h0 _ _ rfl
    have hy : ys = [] := List.eq_nil_of_length_eq_zero hn0
    subst hy
    exact wpList_append_own_none hgd s z 25 ho base 3 i 1 Try.underlying25 hi v xs.length (xs.map fun x => .int .i64 x) hs hM hz' (h v W O (by simpa using hM))
  · refine wpList_append_own W hgd s z 25 ho base 3 i (.int .i64 0) 1 8 Try.underlying25 hi hz hsz hby rfl (by decide) v xs.length (xs.map fun x => .int .i64 x) hs hM ad ys.length c (ys.map fun x => .int .i64 x) hz' (by simp) (fun j u hu => ?_) (fun u hu => by obtain ⟨q, _, rfl⟩ := List.mem_map.1 hu; rfl)
      (by simp only [maxLen]; omega) (by omega) (by have := O.keep.size; omega) fun v' u h1 g _ => ?_
    · rw [List.getElem?_map] at hu
      obtain ⟨q, hq, rfl⟩ := Option.map_eq_some_iff.1 hu
      have hj := (List.getElem?_eq_some_iff.1 hq).1
      obtain ⟨ad', e, _, hcc⟩ := hc (by omega)
      cases e
      rw [hcc j hj, List.getD_eq_getElem?_getD, hq]
      rfl
    · refine h v' u ?_ (by unfold Mint; rw [List.length_append, List.map_append]; exact h1)
      have hk : Keeps W u (v.ownBlock.toList) := ⟨g.os, g.tape, g.output, g.size, fun b hb' hn => g.block b hb' (by intro e; exact hn (by rw [← e]; simp))⟩
      refine ⟨O.keep.trans hk (fun b hb' hlt => ?_), fun q hq => (O.blk q hq).keeps hk (fun hm => ?_), O.new, O.nd⟩
      · have := (Mint.own hM (g := b) (by simpa using hb')).1
        omega
      · obtain ⟨_, _, cur, hcur⟩ := Mint.own hM (g := q.1) (by simpa using hm)
        have h1 := O.blk q hq
        rw [Blk, hcur] at h1
        injection h1 with h1
        injection h1 with _ h1 _
        exact hL q hq h1.symm
theorem min_arm {m n : Nat} (ho : o.op = .call { callee := .builtin .min, args := #[x, y], argTypes := #[3, 3] }) (hx : a.eval x = .int .i64 (m : Int)) (hy : a.eval y = .int .i64 (n : Int)) (w : World) : (execOp a.eval o).run Try.prog w = .ok (.value (.int .i64 (min m n : Nat))) w := by
  unfold execOp
  simp only [ho, resolve, invoke, builtin, Builtin.min_, Builtin.min2, List.map_toArray, List.map_cons, List.map_nil, hx, hy, Sem.run_bind, Sem.run_pure, Result.andThen_ok, List.foldlM_cons, List.foldlM_nil]
  have e : (if (n : Int) < m then (n : Int) else m) = ((min m n : Nat) : Int) := by
    by_cases h : (n : Int) < m
    · rw [if_pos h]; omega
    · rw [if_neg h]; omega
  rw [e]
end

/-- A run as it was handed out, in blocks from base on. -/
def RunB (base : Nat) (W : World) (S : Sys) (X : RunP) (evs cells : Value) : Prop :=
  W.ownsRow base 37 5 evs X.P.ev.length (evL (lE X.P.ev) X.P.ev.length) ∧ ∃ bc m, cells = .slice (some ⟨bc, 0, none⟩) m m ∧ S.ce = (m : Int) ∧ Blk W bc 3 (arrI m X.P.ce) ∧ base ≤ bc
theorem RunB.keeps {base : Nat} {W u : World} {S : Sys} {X : RunP} {evs cells : Value} {Sx : List Nat} (h : RunB base W S X evs cells) (k : Keeps W u Sx) (hS : ∀ b ∈ Sx, b < base) : RunB base u S X evs cells := by
  obtain ⟨h1, bc, m, h2, h3, h4, h5⟩ := h
  refine ⟨ownsRow_keeps h1 k fun g hg hm => ?_, bc, m, h2, h3, h4.keeps k fun hm => ?_, h5⟩
  · have := hS g hm
    have := (h1.lt g hg).1
    omega
  · have := hS bc hm
    omega
theorem RunB.keepsNew {base g : Nat} {W u : World} {S : Sys} {X : RunP} {evs cells : Value} (h : RunB base W S X evs cells) {V : World} (hV : Keeps W V []) (hg : W.heap.size ≤ g) (k : Keeps V u [g]) : RunB base u S X evs cells := by
  obtain ⟨h1, bc, m, h2, h3, h4, h5⟩ := h
  have kk : ∀ b, b < W.heap.size → u.heap[b]? = W.heap[b]? := fun b hb => by
    rw [k.block b (by have := hV.size; omega) (by simp; omega), hV.block b hb (by simp)]
  refine ⟨⟨h1.1, ?_⟩, bc, m, h2, h3, ?_, h5⟩
  · rcases h1.2 with hn | ⟨g', cap, cur, rfl, hb, hgg, rest⟩
    · exact .inl hn
    · exact .inr ⟨g', cap, cur, rfl, hb, by rw [kk g' (Array.getElem?_eq_some_iff.1 hgg).1]; exact hgg, rest⟩
  · have := h4.lt
    unfold Blk at h4 ⊢
    rw [kk bc this]
    exact h4
theorem RunB.val {base : Nat} {W : World} {S : Sys} {X : RunP} {evs cells : Value} (h : RunB base W S X evs cells) : RunV W S X (.agg (runC X.fin X.fault evs X.P.n cells)) := by
  obtain ⟨h1, bc, m, rfl, h3, h4, h5⟩ := h
  obtain ⟨A, c, rfl, q1, q2, q3⟩ : ∃ A c, evs = .slice A X.P.ev.length c ∧ EvsAt W A X.P.ev.length (lE X.P.ev) ∧ X.P.ev.length ≤ c ∧ c ≤ maxLen := by
    obtain ⟨_, ⟨rfl, h0⟩ | ⟨g, cap, cur, rfl, _, hb, hle, hm, hs, ht⟩⟩ := h1
    · exact ⟨none, 0, by rw [h0], fun h => by omega, by omega, Nat.zero_le _⟩
    · refine ⟨some ⟨g, 0, none⟩, cap, rfl, fun hn => ⟨⟨g, 0, none⟩, rfl, ?_, fun i j hi hj => ?_⟩, hle, hm⟩
      · rcases Nat.lt_or_ge g W.heap.size with h | h
        · exact h
        · rw [Array.getElem?_eq_none h] at hb; cases hb
      · rw [add_zero_, cell_of_row W g (i * 5 + j) cur 37 (0, 0) hb, ← evL_get (lE X.P.ev) _ i j hi hj, ← ht, List.getElem?_take, if_pos (by omega), Array.getElem?_toList]
  refine ⟨A, c, _, m, rfl, q1, q2, q3, h3, some ⟨bc, 0, none⟩, m, by simp, fun hm => ⟨_, rfl, h4.lt, fun j hj => ?_⟩⟩
  simp only [List.length_map, List.length_range] at hj hm
  rw [Addr.add_mid, Nat.zero_add, h4.cell, arrI_get _ _ _ hj]
  simp [List.getD_eq_getElem?_getD, hj]
theorem RunV.open' {W : World} {S : Sys} {X : RunP} {evs cells : Value} (h : RunV W S X (.agg (runC X.fin X.fault evs X.P.n cells))) : ∃ A c, evs = .slice A X.P.ev.length c ∧ EvsAt W A X.P.ev.length (lE X.P.ev) := by
  obtain ⟨A, c, cells', m, e, h2, _⟩ := h
  simp only [runC, Value.agg.injEq, Array.mk.injEq, List.cons.injEq] at e
  exact ⟨A, c, e.2.2.1, h2⟩
theorem runC_one {X : RunP} {evs cells : Value} (h : evs.oneCell' = true) (h' : cells.oneCell' = true) : ∀ v ∈ (runC X.fin X.fault evs X.P.n cells).toList, v.oneCell' = true := runC_cell _ _ _ _ _ h h'
theorem RunB.one {base : Nat} {W : World} {S : Sys} {X : RunP} {evs cells : Value} (h : RunB base W S X evs cells) : evs.oneCell' = true ∧ cells.oneCell' = true := by
  obtain ⟨h1, bc, m, rfl, _⟩ := h
  refine ⟨?_, rfl⟩
  rcases h1.2 with ⟨rfl, _⟩ | ⟨g, cap, cur, rfl, _⟩ <;> rfl
/-- Behind a region whose orders come to the same. -/
theorem wp_join {P : Program} {Q : Exit → Act → World → Prop} {c : Code} {a0 : Act} {w0 : World} {ι : Type} (F : Act → ι → Act) (R : ι → World → Prop) (h : c.wp P (fun e a w => e = .normal ∧ ∃ p, a = F a0 p ∧ R p w) a0 w0)
    (hk : ∀ p w, R p w → Q .normal (F a0 p) w) : c.wp P Q a0 w0 :=
  Code.wp_mono (fun e a w ⟨he, p, ha, hr⟩ => by subst he; subst ha; exact hk p w hr) h
structure J6 where
  v26 : Value
  v28 : Value
  v30 : Value
  A2 : Option Addr
  c2 : Nat
  cells : Value
  r9 : Nat
def J6.cs (p : J6) (Y : RunP) : Array Value := runC Y.fin Y.fault (.slice p.A2 Y.P.ev.length p.c2) Y.P.n p.cells
section
variable {w : World} {S : Sys} {A : Option Addr} {c0 : Nat} {R : Option Addr} {d : Nat} {pv qv : Value}
set_option maxRecDepth 100000 in
theorem sbegins_bad (hS : SysIn w S A c0 R d) (hv : validB S = false) : Calls Try.prog 5 #[.agg (sysV S A c0 R d), pv, qv] w fun e w' => e = .returned (.bool true) ∧ Keeps w w' [] := by
  have O := Own.start w []
  have HR := Lib.hid (fun u (k : Keeps w u []) => show Calls Try.prog 23 #[.agg (sysV S A c0 R d)] u fun e w' => e = .returned (.bool false) ∧ Keeps u w' [] from by have := refvalid_any (hS.kept k); rwa [hv] at this)
  clear hv hS
  go_enter Try.func5, Try.ntmps5
  go_wp2_with (first
    | (refine own_box 3 (sysV S A c0 R d) O rfl rfl rfl rfl ?_; clear O; intro W b3 O; simp only [Act.put, List.setIfInBounds_toArray, List.set_cons_zero, List.set_cons_succ])
    | (refine own_load 15 0 O rfl rfl rfl rfl rfl Try.underlying27 rfl (by kernel_rfl) ?_; simp only [Act.put, List.setIfInBounds_toArray, List.set_cons_zero, List.set_cons_succ])
    | (go_at_call 24; refine awake_any.mono ?_; rintro e W ⟨rfl, K⟩; replace O := O.keeps K; clear K)
    | (go_at_call 23; refine (HR.out _ O.keep).mono ?_; rintro e W ⟨rfl, K⟩; replace O := O.keeps K; clear K)
    | go_big_skip)
  go_ret
  exact ⟨rfl, O.keep⟩
set_option maxRecDepth 100000 in
set_option maxHeartbeats 4000000 in
theorem sbegins_good {xs ys : List Int} (hS : SysIn w S A c0 R d) (hv : validB S = true) (hp : IntL w pv xs) (hq : IntL w qv ys) (hpn : ∀ n c, pv = .slice none n c → n = 0 ∧ c = 0) (hqn : ∀ n c, qv = .slice none n c → n = 0 ∧ c = 0) (hl : xs.length ≤ 2000000) (hm : ys.length ≤ 2000000) :
    Calls Try.prog 5 #[.agg (sysV S A c0 R d), pv, qv] w fun e w' => e = .returned (.bool true) ∧ Keeps w w' [] := by
  have O := Own.start w []
  have HR := Lib.hid (fun u (k : Keeps w u []) => show Calls Try.prog 23 #[.agg (sysV S A c0 R d)] u fun e w' => e = .returned (.bool true) ∧ Keeps u w' [] from by have := refvalid_any (hS.kept k); rwa [hv] at this)
  have HP1 := Lib.hid (fun u (k : Keeps w u []) => playV (hS.kept k) hv (hp.kept k))
  have HP2 := Lib.hid (fun u (k : Keeps w u []) v (h : IntL u v (xs ++ ys)) => show Calls Try.prog 25 #[.agg (sysV S A c0 R d), v] u fun e W => ∃ evs cells, e = .returned (.tuple #[.agg (runC (playP S (xs ++ ys)).fin (playP S (xs ++ ys)).fault evs (playP S (xs ++ ys)).P.n cells), .int .i64 0]) ∧ RunAt u W S (playP S (xs ++ ys)) evs cells from play_good (hS.kept k) hv h)
  have HPL := Lib.hid (fun u (k : Keeps w u []) => hp.kept k)
  have HQL := Lib.hid (fun u (k : Keeps w u []) => hq.kept k)
  have HLE := Lib.hid (play_locks S hv xs).1.2.2.2
  have hce : S.ce ≤ 64 := by
    have := ((headB_iff S).1 ((validB_iff S).1 hv).1).2.2.2.2.2
    rw [shB_iff] at this
    omega
  have HCE := Lib.hid hce
  have HPN := Lib.hid hpn
  have HQN := Lib.hid hqn
  have HLM := Lib.hid (And.intro hl hm)
  have HB := Lib.hid (play_begins S xs ys)
  obtain ⟨Ap, cp, rfl, hpc⟩ := hp
  clear hpc hS hv hq hpn hqn hce hl hm
  generalize playP S xs = X at *
  generalize hY : playP S (xs ++ ys) = Y at *
  clear hY
  go_enter Try.func5, Try.ntmps5
  go_wp2_with (first
    | (refine own_box 3 (sysV S A c0 R d) O rfl rfl rfl rfl ?_; clear O; intro W b3 O; simp only [Act.put, List.setIfInBounds_toArray, List.set_cons_zero, List.set_cons_succ])
    | (refine own_load 15 0 O rfl rfl rfl rfl rfl Try.underlying27 rfl (by kernel_rfl) ?_; simp only [Act.put, List.setIfInBounds_toArray, List.set_cons_zero, List.set_cons_succ])
    | (refine own_load 19 0 O rfl rfl rfl rfl rfl Try.underlying27 rfl (by kernel_rfl) ?_; simp only [Act.put, List.setIfInBounds_toArray, List.set_cons_zero, List.set_cons_succ])
    | (go_at_call 24; refine awake_any.mono ?_; rintro e W ⟨rfl, K⟩; replace O := O.keeps K; clear K)
    | (go_at_call 23; refine (HR.out _ O.keep).mono ?_; rintro e W ⟨rfl, K⟩; replace O := O.keeps K; clear K)
    | (go_at_call 25; refine (HP1.out _ O.keep).mono ?_; rintro e W1 ⟨v1, rfl, hR1, K⟩; have HR1 := Lib.hid hR1; obtain ⟨cs1, rfl, hs1, hc1, hn1⟩ := hR1.cell; have HS1 := Lib.hid (And.intro hs1 hc1); replace O := O.keeps K; have HB3 := Lib.hid (O.get 0 rfl); have HO := Lib.hid O.keep; clear O; have O := Own.start W1 []; clear hR1 hs1 hc1 hn1 K HP1)
    | (refine own_alloc 7 (#[Value.int .i64 0, .int .i64 0, .slice none 0 0, .int .i64 0, .slice none 0 0]) O rfl rfl rfl (fun _ => by kernel_rfl) ?_; clear O; intro W r7 O; simp only [Act.put, List.setIfInBounds_toArray, List.set_cons_zero, List.set_cons_succ])
    | (refine own_store_row 0 (.tmp 7) (.tmp 22) (cs' := cs1) O rfl rfl rfl rfl rfl rfl (by rw [HS1.out.1]; kernel_rfl) HS1.out.1.symm HS1.out.2 ?_; clear O; intro W O; simp only [List.set_cons_zero] at O)
    | go_big_skip)
  refine wp_join (fun a (p : J6) => ((((((((((((a.put (some 25) (.agg (sysV S A c0 R d))).put (some 26) p.v26).put (some 27) (.slice Ap xs.length cp)).put (some 28) p.v28).put (some 29) qv).put (some 30) p.v30).put (some 31) (.tuple #[.agg (p.cs Y), .int .i64 0])).put (some 24) (.tuple #[.agg (p.cs Y), .int .i64 0])).put (some 32) (.agg (p.cs Y))).put (some 33) (.int .i64 0)).put (some 9) (.pointer (some ⟨p.r9, 0, none⟩))).put (some 10) (.int .i64 0))) (fun p u => Own W1 u [] [(p.r9, 33, p.cs Y), (r7, 33, cs1)] ∧ RunV u S Y (.agg (p.cs Y))) ?_ ?_
  · refine wp_held (S := fun u => Own W1 u [] [(r7, 33, cs1)]) 13 #[false, false, false, false, false, false, false, false, false, false, false, false, false] (by kernel_rfl) rfl rfl ?_
    replace O := O.drew
    refine seg_take (fuel := 10) (L' := #[true, false, true, false, true, false, false, false, false, false, false, false, false]) (by kernel_rfl) (fun _ _ _ _ _ _ h => h) (by first | exact O | exact O.drop_ 1) [0, 2, 4] [_, _, _] _ _ rfl (by kernel_rfl) ?_
    simp only [List.getElem_toArray, List.getElem_cons_zero, List.getElem_cons_succ]
    repeat (first
      | (refine take_load 25 rfl (by rfl) rfl rfl (fun _ h => HB3.out.keeps (Own.keep h) (by simp)) Try.underlying27 rfl (by kernel_rfl) ?_; simp only [Act.put, List.setIfInBounds_toArray, List.set_cons_zero, List.set_cons_succ])
      | (refine take_pure (v := ?_) (by rfl) ?_ ?_; rotate_left; (· (intro w hSw; clear hSw; go_simp; try with_reducible rfl)); simp only [Act.put, List.setIfInBounds_toArray, List.set_cons_zero, List.set_cons_succ]))
    refine take_done ?_
    refine seg_two 1 10 #[true, true, true, false, true, false, false, false, false, false, false, false, false] #[true, false, true, false, true, false, false, false, false, false, true, false, false] rfl rfl (by kernel_rfl) ?_ ?_
    · try simp only [List.getElem_toArray, List.getElem_cons_zero, List.getElem_cons_succ]
      refine mint_lit0 W1.heap.size 26 O rfl rfl rfl O.keep.size ?_; clear O; intro W v26 O M26; simp only [Act.put, List.setIfInBounds_toArray, List.set_cons_zero, List.set_cons_succ]
      (first | refine back_intro2 (by first | exact O | exact O.drop_ 1) ?_ | refine back_intro (by first | exact O | exact O.drop_ 1) ?_)
      refine seg_two 3 10 #[true, true, true, true, true, false, false, false, false, false, false, false, false] #[true, true, true, false, true, false, false, false, false, false, true, false, false] rfl rfl (by kernel_rfl) ?_ ?_
      · try simp only [List.getElem_toArray, List.getElem_cons_zero, List.getElem_cons_succ]
        go_wp2_with (at_builtin; refine own_apps W1.heap.size v26 [] xs (.slice Ap xs.length cp) (.tmp 26) (.tmp 27) O M26 rfl rfl rfl rfl (HPL.out _ (HO.out.trans O.keep (by simp))) HPN.out rfl (by simp) (by have := HLM.out; simp; omega) ?_; clear O M26; intro v28 W O M28; simp only [Act.put, List.setIfInBounds_toArray, List.set_cons_zero, List.set_cons_succ]; rw [List.nil_append] at M28)
        (first | refine back_intro2 (by first | exact O | exact O.drop_ 1) ?_ | refine back_intro (by first | exact O | exact O.drop_ 1) ?_)
        refine seg_two 5 10 #[true, true, true, true, true, true, false, false, false, false, false, false, false] #[true, true, true, true, true, false, false, false, false, false, true, false, false] rfl rfl (by kernel_rfl) ?_ ?_
        · try simp only [List.getElem_toArray, List.getElem_cons_zero, List.getElem_cons_succ]
          go_wp2_with (at_builtin; refine own_apps W1.heap.size v28 xs ys qv (.tmp 28) (.tmp 29) O M28 rfl rfl rfl rfl (HQL.out _ (HO.out.trans O.keep (by simp))) HQN.out rfl (by simp) (by have := HLM.out; omega) ?_; clear O M28; intro v30 W O M30; simp only [Act.put, List.setIfInBounds_toArray, List.set_cons_zero, List.set_cons_succ])
          (first | refine back_intro2 (by first | exact O | exact O.drop_ 1) ?_ | refine back_intro (by first | exact O | exact O.drop_ 1) ?_)
          refine seg_two 6 10 #[true, true, true, true, true, true, true, false, false, false, false, false, false] #[true, true, true, true, true, true, false, false, false, false, true, false, false] rfl rfl (by kernel_rfl) ?_ ?_
          · try simp only [List.getElem_toArray, List.getElem_cons_zero, List.getElem_cons_succ]
            go_wp2_with (go_at_call 25; go_loud (have HLT := Lib.hid (O.lt 0 rfl); refine (HP2.out _ (HO.out.trans O.keep (by simp)) _ M30.list).mono ?_; clear M30; rintro e W ⟨evs, cells, rfl, hA⟩; replace O := O.keeps hA.keep; have HRB := Lib.hid (show RunB _ W S Y evs cells from ⟨hA.evr, hA.cell⟩); obtain ⟨A2, c2, rfl, _⟩ := hA.evs; have HS2 := Lib.hid HRB.out.one; clear hA))
            (first | refine back_intro2 (by first | exact O | exact O.drop_ 1) ?_ | refine back_intro (by first | exact O | exact O.drop_ 1) ?_)
            refine seg_take (fuel := 3) (L' := #[true, true, true, true, true, true, true, true, true, true, false, false, false]) (by kernel_rfl) (fun _ _ _ _ _ _ h => h) (by first | exact O | exact O.drop_ 1) [7, 8, 9] [_, _, _] _ _ rfl (by kernel_rfl) ?_
            simp only [List.getElem_toArray, List.getElem_cons_zero, List.getElem_cons_succ]
            repeat (first
              | (refine take_pure (v := ?_) (by rfl) ?_ ?_; rotate_left; (· (intro w hSw; clear hSw; go_simp; try with_reducible rfl)); simp only [Act.put, List.setIfInBounds_toArray, List.set_cons_zero, List.set_cons_succ]))
            refine take_done ?_
            refine seg_sole 10 #[true, true, true, true, true, true, true, true, true, true, true, false, false] rfl (by kernel_rfl) ?_
            try simp only [List.getElem_toArray, List.getElem_cons_zero, List.getElem_cons_succ]
            go_wp2_with (refine own_allocK 9 (#[Value.int .i64 0, .int .i64 0, .slice none 0 0, .int .i64 0, .slice none 0 0]) O rfl rfl rfl (fun _ => by kernel_rfl) ?_; clear O; intro W r9 O K9 H9; (try replace M26 := Mint.keeps M26 K9 (by simp)); (try replace M28 := Mint.keeps M28 K9 (by simp)); (try replace M30 := Mint.keeps M30 K9 (by simp)); have HK9 := Lib.hid (And.intro K9 H9); clear K9 H9; simp only [Act.put, List.setIfInBounds_toArray, List.set_cons_zero, List.set_cons_succ])
            (first | refine back_intro2 (by first | exact O | exact O.drop_ 1) ?_ | refine back_intro (by first | exact O | exact O.drop_ 1) ?_)
            refine seg_sole 11 #[true, true, true, true, true, true, true, true, true, true, true, true, false] rfl (by kernel_rfl) ?_
            try simp only [List.getElem_toArray, List.getElem_cons_zero, List.getElem_cons_succ]
            go_wp2_with (refine own_store_rowK 0 (.tmp 9) (.tmp 32) (cs' := runC Y.fin Y.fault (.slice A2 Y.P.ev.length c2) Y.P.n cells) O rfl rfl rfl rfl rfl rfl (by kernel_rfl) (by rfl) (runC_one HS2.out.1 HS2.out.2) ?_; clear O; intro W O K; simp only [List.set_cons_zero] at O; have HR2 := Lib.hid (RunB.val (by first | exact RunB.keeps HRB.out K (by intro b hb; obtain rfl := List.mem_singleton.1 hb; exact HLT.out) | exact RunB.keepsNew HRB.out HK9.out.1 HK9.out.2 K)); clear K)
            (first | refine back_intro2 (by first | exact O | exact O.drop_ 1) ?_ | refine back_intro (by first | exact O | exact O.drop_ 1) ?_)
            refine seg_take (fuel := 0) (L' := #[true, true, true, true, true, true, true, true, true, true, true, true, true]) (by kernel_rfl) (fun _ _ _ _ _ _ h => h) (by first | exact O | exact O.drop_ 1) [12] [_] _ _ rfl (by kernel_rfl) ?_
            simp only [List.getElem_toArray, List.getElem_cons_zero, List.getElem_cons_succ]
            repeat (first
              | (refine take_pure (v := ?_) (by rfl) ?_ ?_; rotate_left; (· (intro w hSw; clear hSw; go_simp; try with_reducible rfl)); simp only [Act.put, List.setIfInBounds_toArray, List.set_cons_zero, List.set_cons_succ]))
            refine take_done ?_
            refine seg_done (by kernel_rfl) ?_
            exact ⟨rfl, ⟨v26, v28, v30, A2, c2, cells, r9⟩, rfl, O, HR2.out⟩
          · try simp only [List.getElem_toArray, List.getElem_cons_zero, List.getElem_cons_succ]
            go_wp2_with (refine own_allocK 9 (#[Value.int .i64 0, .int .i64 0, .slice none 0 0, .int .i64 0, .slice none 0 0]) O rfl rfl rfl (fun _ => by kernel_rfl) ?_; clear O; intro W r9 O K9 H9; (try replace M26 := Mint.keeps M26 K9 (by simp)); (try replace M28 := Mint.keeps M28 K9 (by simp)); (try replace M30 := Mint.keeps M30 K9 (by simp)); have HK9 := Lib.hid (And.intro K9 H9); clear K9 H9; simp only [Act.put, List.setIfInBounds_toArray, List.set_cons_zero, List.set_cons_succ])
            (first | refine back_intro2 (by first | exact O | exact O.drop_ 1) ?_ | refine back_intro (by first | exact O | exact O.drop_ 1) ?_)
            refine seg_sole 6 #[true, true, true, true, true, true, true, false, false, false, true, false, false] rfl (by kernel_rfl) ?_
            try simp only [List.getElem_toArray, List.getElem_cons_zero, List.getElem_cons_succ]
            go_wp2_with (go_at_call 25; go_loud (have HLT := Lib.hid (O.lt 0 rfl); refine (HP2.out _ (HO.out.trans O.keep (by simp)) _ M30.list).mono ?_; clear M30; rintro e W ⟨evs, cells, rfl, hA⟩; replace O := O.keeps hA.keep; have HRB := Lib.hid (show RunB _ W S Y evs cells from ⟨hA.evr, hA.cell⟩); obtain ⟨A2, c2, rfl, _⟩ := hA.evs; have HS2 := Lib.hid HRB.out.one; clear hA))
            (first | refine back_intro2 (by first | exact O | exact O.drop_ 1) ?_ | refine back_intro (by first | exact O | exact O.drop_ 1) ?_)
            refine seg_take (fuel := 2) (L' := #[true, true, true, true, true, true, true, true, true, true, true, false, false]) (by kernel_rfl) (fun _ _ _ _ _ _ h => h) (by first | exact O | exact O.drop_ 1) [7, 8, 9] [_, _, _] _ _ rfl (by kernel_rfl) ?_
            simp only [List.getElem_toArray, List.getElem_cons_zero, List.getElem_cons_succ]
            repeat (first
              | (refine take_pure (v := ?_) (by rfl) ?_ ?_; rotate_left; (· (intro w hSw; clear hSw; go_simp; try with_reducible rfl)); simp only [Act.put, List.setIfInBounds_toArray, List.set_cons_zero, List.set_cons_succ]))
            refine take_done ?_
            refine seg_sole 11 #[true, true, true, true, true, true, true, true, true, true, true, true, false] rfl (by kernel_rfl) ?_
            try simp only [List.getElem_toArray, List.getElem_cons_zero, List.getElem_cons_succ]
            go_wp2_with (refine own_store_rowK 0 (.tmp 9) (.tmp 32) (cs' := runC Y.fin Y.fault (.slice A2 Y.P.ev.length c2) Y.P.n cells) O rfl rfl rfl rfl rfl rfl (by kernel_rfl) (by rfl) (runC_one HS2.out.1 HS2.out.2) ?_; clear O; intro W O K; simp only [List.set_cons_zero] at O; have HR2 := Lib.hid (RunB.val (by first | exact RunB.keeps HRB.out K (by intro b hb; obtain rfl := List.mem_singleton.1 hb; exact HLT.out) | exact RunB.keepsNew HRB.out HK9.out.1 HK9.out.2 K)); clear K)
            (first | refine back_intro2 (by first | exact O | exact O.drop_ 1) ?_ | refine back_intro (by first | exact O | exact O.drop_ 1) ?_)
            refine seg_take (fuel := 0) (L' := #[true, true, true, true, true, true, true, true, true, true, true, true, true]) (by kernel_rfl) (fun _ _ _ _ _ _ h => h) (by first | exact O | exact O.drop_ 1) [12] [_] _ _ rfl (by kernel_rfl) ?_
            simp only [List.getElem_toArray, List.getElem_cons_zero, List.getElem_cons_succ]
            repeat (first
              | (refine take_pure (v := ?_) (by rfl) ?_ ?_; rotate_left; (· (intro w hSw; clear hSw; go_simp; try with_reducible rfl)); simp only [Act.put, List.setIfInBounds_toArray, List.set_cons_zero, List.set_cons_succ]))
            refine take_done ?_
            refine seg_done (by kernel_rfl) ?_
            exact ⟨rfl, ⟨v26, v28, v30, A2, c2, cells, r9⟩, rfl, O, HR2.out⟩
        · try simp only [List.getElem_toArray, List.getElem_cons_zero, List.getElem_cons_succ]
          go_wp2_with (refine own_allocK 9 (#[Value.int .i64 0, .int .i64 0, .slice none 0 0, .int .i64 0, .slice none 0 0]) O rfl rfl rfl (fun _ => by kernel_rfl) ?_; clear O; intro W r9 O K9 H9; (try replace M26 := Mint.keeps M26 K9 (by simp)); (try replace M28 := Mint.keeps M28 K9 (by simp)); (try replace M30 := Mint.keeps M30 K9 (by simp)); have HK9 := Lib.hid (And.intro K9 H9); clear K9 H9; simp only [Act.put, List.setIfInBounds_toArray, List.set_cons_zero, List.set_cons_succ])
          (first | refine back_intro2 (by first | exact O | exact O.drop_ 1) ?_ | refine back_intro (by first | exact O | exact O.drop_ 1) ?_)
          refine seg_sole 5 #[true, true, true, true, true, true, false, false, false, false, true, false, false] rfl (by kernel_rfl) ?_
          try simp only [List.getElem_toArray, List.getElem_cons_zero, List.getElem_cons_succ]
          go_wp2_with (at_builtin; refine own_apps W1.heap.size v28 xs ys qv (.tmp 28) (.tmp 29) O M28 rfl rfl rfl rfl (HQL.out _ (HO.out.trans O.keep (by simp))) HQN.out rfl (by simp) (by have := HLM.out; omega) ?_; clear O M28; intro v30 W O M30; simp only [Act.put, List.setIfInBounds_toArray, List.set_cons_zero, List.set_cons_succ])
          (first | refine back_intro2 (by first | exact O | exact O.drop_ 1) ?_ | refine back_intro (by first | exact O | exact O.drop_ 1) ?_)
          refine seg_sole 6 #[true, true, true, true, true, true, true, false, false, false, true, false, false] rfl (by kernel_rfl) ?_
          try simp only [List.getElem_toArray, List.getElem_cons_zero, List.getElem_cons_succ]
          go_wp2_with (go_at_call 25; go_loud (have HLT := Lib.hid (O.lt 0 rfl); refine (HP2.out _ (HO.out.trans O.keep (by simp)) _ M30.list).mono ?_; clear M30; rintro e W ⟨evs, cells, rfl, hA⟩; replace O := O.keeps hA.keep; have HRB := Lib.hid (show RunB _ W S Y evs cells from ⟨hA.evr, hA.cell⟩); obtain ⟨A2, c2, rfl, _⟩ := hA.evs; have HS2 := Lib.hid HRB.out.one; clear hA))
          (first | refine back_intro2 (by first | exact O | exact O.drop_ 1) ?_ | refine back_intro (by first | exact O | exact O.drop_ 1) ?_)
          refine seg_take (fuel := 2) (L' := #[true, true, true, true, true, true, true, true, true, true, true, false, false]) (by kernel_rfl) (fun _ _ _ _ _ _ h => h) (by first | exact O | exact O.drop_ 1) [7, 8, 9] [_, _, _] _ _ rfl (by kernel_rfl) ?_
          simp only [List.getElem_toArray, List.getElem_cons_zero, List.getElem_cons_succ]
          repeat (first
            | (refine take_pure (v := ?_) (by rfl) ?_ ?_; rotate_left; (· (intro w hSw; clear hSw; go_simp; try with_reducible rfl)); simp only [Act.put, List.setIfInBounds_toArray, List.set_cons_zero, List.set_cons_succ]))
          refine take_done ?_
          refine seg_sole 11 #[true, true, true, true, true, true, true, true, true, true, true, true, false] rfl (by kernel_rfl) ?_
          try simp only [List.getElem_toArray, List.getElem_cons_zero, List.getElem_cons_succ]
          go_wp2_with (refine own_store_rowK 0 (.tmp 9) (.tmp 32) (cs' := runC Y.fin Y.fault (.slice A2 Y.P.ev.length c2) Y.P.n cells) O rfl rfl rfl rfl rfl rfl (by kernel_rfl) (by rfl) (runC_one HS2.out.1 HS2.out.2) ?_; clear O; intro W O K; simp only [List.set_cons_zero] at O; have HR2 := Lib.hid (RunB.val (by first | exact RunB.keeps HRB.out K (by intro b hb; obtain rfl := List.mem_singleton.1 hb; exact HLT.out) | exact RunB.keepsNew HRB.out HK9.out.1 HK9.out.2 K)); clear K)
          (first | refine back_intro2 (by first | exact O | exact O.drop_ 1) ?_ | refine back_intro (by first | exact O | exact O.drop_ 1) ?_)
          refine seg_take (fuel := 0) (L' := #[true, true, true, true, true, true, true, true, true, true, true, true, true]) (by kernel_rfl) (fun _ _ _ _ _ _ h => h) (by first | exact O | exact O.drop_ 1) [12] [_] _ _ rfl (by kernel_rfl) ?_
          simp only [List.getElem_toArray, List.getElem_cons_zero, List.getElem_cons_succ]
          repeat (first
            | (refine take_pure (v := ?_) (by rfl) ?_ ?_; rotate_left; (· (intro w hSw; clear hSw; go_simp; try with_reducible rfl)); simp only [Act.put, List.setIfInBounds_toArray, List.set_cons_zero, List.set_cons_succ]))
          refine take_done ?_
          refine seg_done (by kernel_rfl) ?_
          exact ⟨rfl, ⟨v26, v28, v30, A2, c2, cells, r9⟩, rfl, O, HR2.out⟩
      · try simp only [List.getElem_toArray, List.getElem_cons_zero, List.getElem_cons_succ]
        go_wp2_with (refine own_allocK 9 (#[Value.int .i64 0, .int .i64 0, .slice none 0 0, .int .i64 0, .slice none 0 0]) O rfl rfl rfl (fun _ => by kernel_rfl) ?_; clear O; intro W r9 O K9 H9; (try replace M26 := Mint.keeps M26 K9 (by simp)); (try replace M28 := Mint.keeps M28 K9 (by simp)); (try replace M30 := Mint.keeps M30 K9 (by simp)); have HK9 := Lib.hid (And.intro K9 H9); clear K9 H9; simp only [Act.put, List.setIfInBounds_toArray, List.set_cons_zero, List.set_cons_succ])
        (first | refine back_intro2 (by first | exact O | exact O.drop_ 1) ?_ | refine back_intro (by first | exact O | exact O.drop_ 1) ?_)
        refine seg_sole 3 #[true, true, true, true, true, false, false, false, false, false, true, false, false] rfl (by kernel_rfl) ?_
        try simp only [List.getElem_toArray, List.getElem_cons_zero, List.getElem_cons_succ]
        go_wp2_with (at_builtin; refine own_apps W1.heap.size v26 [] xs (.slice Ap xs.length cp) (.tmp 26) (.tmp 27) O M26 rfl rfl rfl rfl (HPL.out _ (HO.out.trans O.keep (by simp))) HPN.out rfl (by simp) (by have := HLM.out; simp; omega) ?_; clear O M26; intro v28 W O M28; simp only [Act.put, List.setIfInBounds_toArray, List.set_cons_zero, List.set_cons_succ]; rw [List.nil_append] at M28)
        (first | refine back_intro2 (by first | exact O | exact O.drop_ 1) ?_ | refine back_intro (by first | exact O | exact O.drop_ 1) ?_)
        refine seg_sole 5 #[true, true, true, true, true, true, false, false, false, false, true, false, false] rfl (by kernel_rfl) ?_
        try simp only [List.getElem_toArray, List.getElem_cons_zero, List.getElem_cons_succ]
        go_wp2_with (at_builtin; refine own_apps W1.heap.size v28 xs ys qv (.tmp 28) (.tmp 29) O M28 rfl rfl rfl rfl (HQL.out _ (HO.out.trans O.keep (by simp))) HQN.out rfl (by simp) (by have := HLM.out; omega) ?_; clear O M28; intro v30 W O M30; simp only [Act.put, List.setIfInBounds_toArray, List.set_cons_zero, List.set_cons_succ])
        (first | refine back_intro2 (by first | exact O | exact O.drop_ 1) ?_ | refine back_intro (by first | exact O | exact O.drop_ 1) ?_)
        refine seg_sole 6 #[true, true, true, true, true, true, true, false, false, false, true, false, false] rfl (by kernel_rfl) ?_
        try simp only [List.getElem_toArray, List.getElem_cons_zero, List.getElem_cons_succ]
        go_wp2_with (go_at_call 25; go_loud (have HLT := Lib.hid (O.lt 0 rfl); refine (HP2.out _ (HO.out.trans O.keep (by simp)) _ M30.list).mono ?_; clear M30; rintro e W ⟨evs, cells, rfl, hA⟩; replace O := O.keeps hA.keep; have HRB := Lib.hid (show RunB _ W S Y evs cells from ⟨hA.evr, hA.cell⟩); obtain ⟨A2, c2, rfl, _⟩ := hA.evs; have HS2 := Lib.hid HRB.out.one; clear hA))
        (first | refine back_intro2 (by first | exact O | exact O.drop_ 1) ?_ | refine back_intro (by first | exact O | exact O.drop_ 1) ?_)
        refine seg_take (fuel := 2) (L' := #[true, true, true, true, true, true, true, true, true, true, true, false, false]) (by kernel_rfl) (fun _ _ _ _ _ _ h => h) (by first | exact O | exact O.drop_ 1) [7, 8, 9] [_, _, _] _ _ rfl (by kernel_rfl) ?_
        simp only [List.getElem_toArray, List.getElem_cons_zero, List.getElem_cons_succ]
        repeat (first
          | (refine take_pure (v := ?_) (by rfl) ?_ ?_; rotate_left; (· (intro w hSw; clear hSw; go_simp; try with_reducible rfl)); simp only [Act.put, List.setIfInBounds_toArray, List.set_cons_zero, List.set_cons_succ]))
        refine take_done ?_
        refine seg_sole 11 #[true, true, true, true, true, true, true, true, true, true, true, true, false] rfl (by kernel_rfl) ?_
        try simp only [List.getElem_toArray, List.getElem_cons_zero, List.getElem_cons_succ]
        go_wp2_with (refine own_store_rowK 0 (.tmp 9) (.tmp 32) (cs' := runC Y.fin Y.fault (.slice A2 Y.P.ev.length c2) Y.P.n cells) O rfl rfl rfl rfl rfl rfl (by kernel_rfl) (by rfl) (runC_one HS2.out.1 HS2.out.2) ?_; clear O; intro W O K; simp only [List.set_cons_zero] at O; have HR2 := Lib.hid (RunB.val (by first | exact RunB.keeps HRB.out K (by intro b hb; obtain rfl := List.mem_singleton.1 hb; exact HLT.out) | exact RunB.keepsNew HRB.out HK9.out.1 HK9.out.2 K)); clear K)
        (first | refine back_intro2 (by first | exact O | exact O.drop_ 1) ?_ | refine back_intro (by first | exact O | exact O.drop_ 1) ?_)
        refine seg_take (fuel := 0) (L' := #[true, true, true, true, true, true, true, true, true, true, true, true, true]) (by kernel_rfl) (fun _ _ _ _ _ _ h => h) (by first | exact O | exact O.drop_ 1) [12] [_] _ _ rfl (by kernel_rfl) ?_
        simp only [List.getElem_toArray, List.getElem_cons_zero, List.getElem_cons_succ]
        repeat (first
          | (refine take_pure (v := ?_) (by rfl) ?_ ?_; rotate_left; (· (intro w hSw; clear hSw; go_simp; try with_reducible rfl)); simp only [Act.put, List.setIfInBounds_toArray, List.set_cons_zero, List.set_cons_succ]))
        refine take_done ?_
        refine seg_done (by kernel_rfl) ?_
        exact ⟨rfl, ⟨v26, v28, v30, A2, c2, cells, r9⟩, rfl, O, HR2.out⟩
    · try simp only [List.getElem_toArray, List.getElem_cons_zero, List.getElem_cons_succ]
      go_wp2_with (refine own_allocK 9 (#[Value.int .i64 0, .int .i64 0, .slice none 0 0, .int .i64 0, .slice none 0 0]) O rfl rfl rfl (fun _ => by kernel_rfl) ?_; clear O; intro W r9 O K9 H9; (try replace M26 := Mint.keeps M26 K9 (by simp)); (try replace M28 := Mint.keeps M28 K9 (by simp)); (try replace M30 := Mint.keeps M30 K9 (by simp)); have HK9 := Lib.hid (And.intro K9 H9); clear K9 H9; simp only [Act.put, List.setIfInBounds_toArray, List.set_cons_zero, List.set_cons_succ])
      (first | refine back_intro2 (by first | exact O | exact O.drop_ 1) ?_ | refine back_intro (by first | exact O | exact O.drop_ 1) ?_)
      refine seg_sole 1 #[true, true, true, false, true, false, false, false, false, false, true, false, false] rfl (by kernel_rfl) ?_
      try simp only [List.getElem_toArray, List.getElem_cons_zero, List.getElem_cons_succ]
      refine mint_lit0 W1.heap.size 26 O rfl rfl rfl O.keep.size ?_; clear O; intro W v26 O M26; simp only [Act.put, List.setIfInBounds_toArray, List.set_cons_zero, List.set_cons_succ]
      (first | refine back_intro2 (by first | exact O | exact O.drop_ 1) ?_ | refine back_intro (by first | exact O | exact O.drop_ 1) ?_)
      refine seg_sole 3 #[true, true, true, true, true, false, false, false, false, false, true, false, false] rfl (by kernel_rfl) ?_
      try simp only [List.getElem_toArray, List.getElem_cons_zero, List.getElem_cons_succ]
      go_wp2_with (at_builtin; refine own_apps W1.heap.size v26 [] xs (.slice Ap xs.length cp) (.tmp 26) (.tmp 27) O M26 rfl rfl rfl rfl (HPL.out _ (HO.out.trans O.keep (by simp))) HPN.out rfl (by simp) (by have := HLM.out; simp; omega) ?_; clear O M26; intro v28 W O M28; simp only [Act.put, List.setIfInBounds_toArray, List.set_cons_zero, List.set_cons_succ]; rw [List.nil_append] at M28)
      (first | refine back_intro2 (by first | exact O | exact O.drop_ 1) ?_ | refine back_intro (by first | exact O | exact O.drop_ 1) ?_)
      refine seg_sole 5 #[true, true, true, true, true, true, false, false, false, false, true, false, false] rfl (by kernel_rfl) ?_
      try simp only [List.getElem_toArray, List.getElem_cons_zero, List.getElem_cons_succ]
      go_wp2_with (at_builtin; refine own_apps W1.heap.size v28 xs ys qv (.tmp 28) (.tmp 29) O M28 rfl rfl rfl rfl (HQL.out _ (HO.out.trans O.keep (by simp))) HQN.out rfl (by simp) (by have := HLM.out; omega) ?_; clear O M28; intro v30 W O M30; simp only [Act.put, List.setIfInBounds_toArray, List.set_cons_zero, List.set_cons_succ])
      (first | refine back_intro2 (by first | exact O | exact O.drop_ 1) ?_ | refine back_intro (by first | exact O | exact O.drop_ 1) ?_)
      refine seg_sole 6 #[true, true, true, true, true, true, true, false, false, false, true, false, false] rfl (by kernel_rfl) ?_
      try simp only [List.getElem_toArray, List.getElem_cons_zero, List.getElem_cons_succ]
      go_wp2_with (go_at_call 25; go_loud (have HLT := Lib.hid (O.lt 0 rfl); refine (HP2.out _ (HO.out.trans O.keep (by simp)) _ M30.list).mono ?_; clear M30; rintro e W ⟨evs, cells, rfl, hA⟩; replace O := O.keeps hA.keep; have HRB := Lib.hid (show RunB _ W S Y evs cells from ⟨hA.evr, hA.cell⟩); obtain ⟨A2, c2, rfl, _⟩ := hA.evs; have HS2 := Lib.hid HRB.out.one; clear hA))
      (first | refine back_intro2 (by first | exact O | exact O.drop_ 1) ?_ | refine back_intro (by first | exact O | exact O.drop_ 1) ?_)
      refine seg_take (fuel := 2) (L' := #[true, true, true, true, true, true, true, true, true, true, true, false, false]) (by kernel_rfl) (fun _ _ _ _ _ _ h => h) (by first | exact O | exact O.drop_ 1) [7, 8, 9] [_, _, _] _ _ rfl (by kernel_rfl) ?_
      simp only [List.getElem_toArray, List.getElem_cons_zero, List.getElem_cons_succ]
      repeat (first
        | (refine take_pure (v := ?_) (by rfl) ?_ ?_; rotate_left; (· (intro w hSw; clear hSw; go_simp; try with_reducible rfl)); simp only [Act.put, List.setIfInBounds_toArray, List.set_cons_zero, List.set_cons_succ]))
      refine take_done ?_
      refine seg_sole 11 #[true, true, true, true, true, true, true, true, true, true, true, true, false] rfl (by kernel_rfl) ?_
      try simp only [List.getElem_toArray, List.getElem_cons_zero, List.getElem_cons_succ]
      go_wp2_with (refine own_store_rowK 0 (.tmp 9) (.tmp 32) (cs' := runC Y.fin Y.fault (.slice A2 Y.P.ev.length c2) Y.P.n cells) O rfl rfl rfl rfl rfl rfl (by kernel_rfl) (by rfl) (runC_one HS2.out.1 HS2.out.2) ?_; clear O; intro W O K; simp only [List.set_cons_zero] at O; have HR2 := Lib.hid (RunB.val (by first | exact RunB.keeps HRB.out K (by intro b hb; obtain rfl := List.mem_singleton.1 hb; exact HLT.out) | exact RunB.keepsNew HRB.out HK9.out.1 HK9.out.2 K)); clear K)
      (first | refine back_intro2 (by first | exact O | exact O.drop_ 1) ?_ | refine back_intro (by first | exact O | exact O.drop_ 1) ?_)
      refine seg_take (fuel := 0) (L' := #[true, true, true, true, true, true, true, true, true, true, true, true, true]) (by kernel_rfl) (fun _ _ _ _ _ _ h => h) (by first | exact O | exact O.drop_ 1) [12] [_] _ _ rfl (by kernel_rfl) ?_
      simp only [List.getElem_toArray, List.getElem_cons_zero, List.getElem_cons_succ]
      repeat (first
        | (refine take_pure (v := ?_) (by rfl) ?_ ?_; rotate_left; (· (intro w hSw; clear hSw; go_simp; try with_reducible rfl)); simp only [Act.put, List.setIfInBounds_toArray, List.set_cons_zero, List.set_cons_succ]))
      refine take_done ?_
      refine seg_done (by kernel_rfl) ?_
      exact ⟨rfl, ⟨v26, v28, v30, A2, c2, cells, r9⟩, rfl, O, HR2.out⟩

  · rintro p u ⟨O, hR2⟩
    simp only [Act.put, List.setIfInBounds_toArray, List.set_cons_zero, List.set_cons_succ]
    obtain ⟨v26, v28, v30, B2, c2, cells2, r9⟩ := p
    replace HR1 := Lib.hid (HR1.out.kept O.keep)
    have HR2 := Lib.hid hR2
    obtain ⟨B, c, cells, m1, e1, hE1, _, _, hm1, _⟩ := HR1.out
    cases e1
    obtain ⟨B2', c2', e2, hE2⟩ := RunV.open' hR2
    cases e2
    clear hR2 hm1
    change Own W1 u [] [(r9, 33, runC Y.fin Y.fault (.slice B2 Y.P.ev.length c2) Y.P.n cells2), (r7, 33, runC X.fin X.fault (.slice B X.P.ev.length c) X.P.n cells)] at O
    replace HR2 : RowKit.Hid (RunV u S Y (.agg (runC Y.fin Y.fault (.slice B2 Y.P.ev.length c2) Y.P.n cells2))) := HR2
    have HU := Lib.hid (HO.out.trans O.keep (by simp))
    obtain ⟨n, hn⟩ : ∃ n, n = min xs.length X.P.ev.length := ⟨_, rfl⟩
    have hB := HB.out.1
    rw [← hn] at hB
    have hnY : n ≤ Y.P.ev.length := by
      rcases Nat.eq_zero_or_pos n with h | h
      · omega
      · have := (hB (n - 1) (by omega)).1
        omega
    have HE1 := Lib.hid (show EvsAt u B n (lE X.P.ev) from fun h => by
      obtain ⟨ad, q1, q2, q3⟩ := hE1 (by omega)
      exact ⟨ad, q1, q2, fun i j hi hj => q3 i j (by omega) hj⟩)
    have HE2 := Lib.hid (show EvsAt u B2 n (lE X.P.ev) from fun h => by
      obtain ⟨ad, q1, q2, q3⟩ := hE2 (by omega)
      refine ⟨ad, q1, q2, fun i j hi hj => ?_⟩
      rw [q3 i j (by omega) hj]
      have := (hB i hi).2
      unfold lE
      rw [List.getD_eq_getElem?_getD, List.getD_eq_getElem?_getD, this])
    have HEND := Lib.hid HB.out.2
    have HNN := Lib.hid hn
    have HNL := Lib.hid (show ¬ (((Y.P.ev.length : Nat) : Int) < n) by omega)
    have HSELF := Lib.hid ev_self
    clear hn hB hE1 hE2 HB HP2 HPL HQL HPN HQN HR HS1
    by_cases hmin : X.P.ev.length < xs.length
    · obtain rfl : n = X.P.ev.length := by have := HNN.out; omega
      have g5 : ((X.P.ev.length : Nat) : Int) < ((xs.length : Nat) : Int) := by omega
      have OL := Lib.hid O
      have c7 : ∀ i, u.cell? ⟨r7, i, none⟩ = #[Value.int .i64 X.fin, .int .i64 X.fault, .slice B X.P.ev.length c, .int .i64 (X.P.n : Nat), cells][i]? := (O.get 1 rfl).cell
      have c9 : ∀ i, u.cell? ⟨r9, i, none⟩ = #[Value.int .i64 Y.fin, .int .i64 Y.fault, .slice B2 Y.P.ev.length c2, .int .i64 (Y.P.n : Nat), cells2][i]? := (O.get 0 rfl).cell
      have gY : ¬ (((Y.P.ev.length : Nat) : Int) < (X.P.ev.length : Nat)) := HNL.out
      go_wp2
      clear c7 c9 gY
      go_loopw [12] (fun i wr => ∃ k : Nat, k ≤ X.P.ev.length ∧ i = .int .i64 k ∧ Own u wr [] [] ∧ Own W1 wr [] [(r9, 33, runC Y.fin Y.fault (.slice B2 Y.P.ev.length c2) Y.P.n cells2), (r7, 33, runC X.fin X.fault (.slice B X.P.ev.length c) X.P.n cells)]) (fun i _ => X.P.ev.length - (intOf i).toNat)
      case atStart => exact ⟨0, by omega, rfl, Own.start u [], O⟩
      case round =>
        clear O OL
        obtain ⟨k, hk, rfl, O1, O⟩ := hrel
        have K := O1.keep
        have c7 : ∀ i, wr.cell? ⟨r7, i, none⟩ = #[Value.int .i64 X.fin, .int .i64 X.fault, .slice B X.P.ev.length c, .int .i64 (X.P.n : Nat), cells][i]? := (O.get 1 rfl).cell
        have c9 : ∀ i, wr.cell? ⟨r9, i, none⟩ = #[Value.int .i64 Y.fin, .int .i64 Y.fault, .slice B2 Y.P.ev.length c2, .int .i64 (Y.P.n : Nat), cells2][i]? := (O.get 0 rfl).cell
        have g9 : X.P.ev.length ≤ 2000000 := by have := HLE.out; have := HLM.out; omega
        by_cases hlt : k < X.P.ev.length
        · have g1 : ((k : Int)) < ((X.P.ev.length : Nat) : Int) := by omega
          have g0 : (0 : Int) ≤ k := by omega
          have g2 : ((k : Int)) < ((X.P.ev.length : Nat) : Int) := by have := HNN.out; omega
          have g3 : ((k : Int)) < ((Y.P.ev.length : Nat) : Int) := by have := HNL.out; omega
          obtain ⟨ad, rfl, hc⟩ := EvsAt.row (u := u) HE1.out hlt
          obtain ⟨ad', rfl, hc'⟩ := EvsAt.row (u := u) HE2.out hlt
          have HC := Lib.hid hc
          have HC' := Lib.hid hc'
          clear hc hc'
          have hs := HSELF.out (lE X.P.ev k)
          generalize lE X.P.ev k = e at HC HC' hs
          go_wp2
          clear c7 c9
          have c7 : ∀ (p : Later wr) i, p.1.cell? ⟨r7, i, none⟩ = #[Value.int .i64 X.fin, .int .i64 X.fault, .slice (some ad) X.P.ev.length c, .int .i64 (X.P.n : Nat), cells][i]? := Later.cell (O.get 1 rfl)
          have c9 : ∀ (p : Later wr) i, p.1.cell? ⟨r9, i, none⟩ = #[Value.int .i64 Y.fin, .int .i64 Y.fault, .slice (some ad') Y.P.ev.length c2, .int .i64 (Y.P.n : Nat), cells2][i]? := Later.cell (O.get 0 rfl)
          refine wp_quiet_later (by kernel_rfl) (by kernel_rfl) ?_
          repeat (first
            | go_big_quiet_skip
            | (refine wpQuiet_load_at (cs := evC e) 60 rfl rfl rfl rfl (fun u hu => HC.out [] u (by obtain ⟨p', rfl⟩ := hu; exact K.trans p'.2 (by simp)) (by simp)) Try.underlying37 rfl (by kernel_rfl) ?_; simp only [Act.put, List.setIfInBounds_toArray, List.set_cons_zero, List.set_cons_succ])
            | (refine wpQuiet_load_at (cs := evC e) 65 rfl rfl rfl rfl (fun u hu => HC'.out [] u (by obtain ⟨p', rfl⟩ := hu; exact K.trans p'.2 (by simp)) (by simp)) Try.underlying37 rfl (by kernel_rfl) ?_; simp only [Act.put, List.setIfInBounds_toArray, List.set_cons_zero, List.set_cons_succ])
            | go_big_quiet_step (fail))
          refine wpQuiet_nil ?_
          intro _ hw
          obtain ⟨p', rfl⟩ := hw
          replace O := O.keeps p'.2
          replace O1 := O1.keeps p'.2
          clear hs c7 c9 K
          generalize p'.1 = W at O O1 ⊢
          go_wp2
          go_roundw
          case rel => exact ⟨k + 1, by omega, by go_num, O1, O⟩
          case measure => (simp [intOf] <;> omega)
        · obtain rfl : k = X.P.ev.length := by omega
          rcases HEND.out with h | h
          · exact absurd h (by omega)
          · subst h
            by_cases h : xs.length < X.P.ev.length
            · exact absurd h (by omega)
            · have g2 : ¬ ((xs.length : Nat) : Int) < ((X.P.ev.length : Nat) : Int) := by omega
              have E72 := Lib.hid (show decide (((xs.length : Nat) : Int) < ((X.P.ev.length : Nat) : Int)) = false by simpa using g2)
              go_wp2_with (first
                | (refine blk_loadG 74 (O.get 1 rfl) rfl (wanted_of rfl rfl E72.out) rfl rfl Try.underlying33 rfl (by kernel_rfl) ?_; simp only [Act.put, List.setIfInBounds_toArray, List.set_cons_zero, List.set_cons_succ])
                | (refine blk_loadG 75 (O.get 0 rfl) rfl (wanted_of rfl rfl E72.out) rfl rfl Try.underlying33 rfl (by kernel_rfl) ?_; simp only [Act.put, List.setIfInBounds_toArray, List.set_cons_zero, List.set_cons_succ])
                | (go_at_call 26; refine (alike_same (HR1.out.kept O1.keep) (HR2.out.kept O1.keep) HLE.out HCE.out).mono ?_; rintro e W ⟨rfl, K⟩; replace O := O.keeps K; clear K c7 c9)
                | go_big_skip)
              go_ret
              exact ⟨rfl, HO.out.trans O.keep (by simp)⟩
    · obtain rfl : n = xs.length := by have := HNN.out; omega
      have g5 : ¬ ((X.P.ev.length : Nat) : Int) < ((xs.length : Nat) : Int) := by omega
      have OL := Lib.hid O
      have c7 : ∀ i, u.cell? ⟨r7, i, none⟩ = #[Value.int .i64 X.fin, .int .i64 X.fault, .slice B X.P.ev.length c, .int .i64 (X.P.n : Nat), cells][i]? := (O.get 1 rfl).cell
      have c9 : ∀ i, u.cell? ⟨r9, i, none⟩ = #[Value.int .i64 Y.fin, .int .i64 Y.fault, .slice B2 Y.P.ev.length c2, .int .i64 (Y.P.n : Nat), cells2][i]? := (O.get 0 rfl).cell
      have gY : ¬ (((Y.P.ev.length : Nat) : Int) < (xs.length : Nat)) := HNL.out
      go_wp2
      clear c7 c9 gY
      go_loopw [12] (fun i wr => ∃ k : Nat, k ≤ xs.length ∧ i = .int .i64 k ∧ Own u wr [] [] ∧ Own W1 wr [] [(r9, 33, runC Y.fin Y.fault (.slice B2 Y.P.ev.length c2) Y.P.n cells2), (r7, 33, runC X.fin X.fault (.slice B X.P.ev.length c) X.P.n cells)]) (fun i _ => xs.length - (intOf i).toNat)
      case atStart => exact ⟨0, by omega, rfl, Own.start u [], O⟩
      case round =>
        clear O OL
        obtain ⟨k, hk, rfl, O1, O⟩ := hrel
        have K := O1.keep
        have c7 : ∀ i, wr.cell? ⟨r7, i, none⟩ = #[Value.int .i64 X.fin, .int .i64 X.fault, .slice B X.P.ev.length c, .int .i64 (X.P.n : Nat), cells][i]? := (O.get 1 rfl).cell
        have c9 : ∀ i, wr.cell? ⟨r9, i, none⟩ = #[Value.int .i64 Y.fin, .int .i64 Y.fault, .slice B2 Y.P.ev.length c2, .int .i64 (Y.P.n : Nat), cells2][i]? := (O.get 0 rfl).cell
        have g9 : xs.length ≤ 2000000 := by have := HLE.out; have := HLM.out; omega
        by_cases hlt : k < xs.length
        · have g1 : ((k : Int)) < ((xs.length : Nat) : Int) := by omega
          have g0 : (0 : Int) ≤ k := by omega
          have g2 : ((k : Int)) < ((X.P.ev.length : Nat) : Int) := by have := HNN.out; omega
          have g3 : ((k : Int)) < ((Y.P.ev.length : Nat) : Int) := by have := HNL.out; omega
          obtain ⟨ad, rfl, hc⟩ := EvsAt.row (u := u) HE1.out hlt
          obtain ⟨ad', rfl, hc'⟩ := EvsAt.row (u := u) HE2.out hlt
          have HC := Lib.hid hc
          have HC' := Lib.hid hc'
          clear hc hc'
          have hs := HSELF.out (lE X.P.ev k)
          generalize lE X.P.ev k = e at HC HC' hs
          go_wp2
          clear c7 c9
          have c7 : ∀ (p : Later wr) i, p.1.cell? ⟨r7, i, none⟩ = #[Value.int .i64 X.fin, .int .i64 X.fault, .slice (some ad) X.P.ev.length c, .int .i64 (X.P.n : Nat), cells][i]? := Later.cell (O.get 1 rfl)
          have c9 : ∀ (p : Later wr) i, p.1.cell? ⟨r9, i, none⟩ = #[Value.int .i64 Y.fin, .int .i64 Y.fault, .slice (some ad') Y.P.ev.length c2, .int .i64 (Y.P.n : Nat), cells2][i]? := Later.cell (O.get 0 rfl)
          refine wp_quiet_later (by kernel_rfl) (by kernel_rfl) ?_
          repeat (first
            | go_big_quiet_skip
            | (refine wpQuiet_load_at (cs := evC e) 60 rfl rfl rfl rfl (fun u hu => HC.out [] u (by obtain ⟨p', rfl⟩ := hu; exact K.trans p'.2 (by simp)) (by simp)) Try.underlying37 rfl (by kernel_rfl) ?_; simp only [Act.put, List.setIfInBounds_toArray, List.set_cons_zero, List.set_cons_succ])
            | (refine wpQuiet_load_at (cs := evC e) 65 rfl rfl rfl rfl (fun u hu => HC'.out [] u (by obtain ⟨p', rfl⟩ := hu; exact K.trans p'.2 (by simp)) (by simp)) Try.underlying37 rfl (by kernel_rfl) ?_; simp only [Act.put, List.setIfInBounds_toArray, List.set_cons_zero, List.set_cons_succ])
            | go_big_quiet_step (fail))
          refine wpQuiet_nil ?_
          intro _ hw
          obtain ⟨p', rfl⟩ := hw
          replace O := O.keeps p'.2
          replace O1 := O1.keeps p'.2
          clear hs c7 c9 K
          generalize p'.1 = W at O O1 ⊢
          go_wp2
          go_roundw
          case rel => exact ⟨k + 1, by omega, by go_num, O1, O⟩
          case measure => (simp [intOf] <;> omega)
        · obtain rfl : k = xs.length := by omega
          rcases HEND.out with h | h
          · have g2 : ((xs.length : Nat) : Int) < ((X.P.ev.length : Nat) : Int) := by omega
            go_wp2_with (first | go_big_skip)
            go_ret
            exact ⟨rfl, HO.out.trans O.keep (by simp)⟩
          · subst h
            by_cases h : xs.length < X.P.ev.length
            · have g2 : ((xs.length : Nat) : Int) < ((X.P.ev.length : Nat) : Int) := by omega
              go_wp2_with (first | go_big_skip)
              go_ret
              exact ⟨rfl, HO.out.trans O.keep (by simp)⟩
            · have g2 : ¬ ((xs.length : Nat) : Int) < ((X.P.ev.length : Nat) : Int) := by omega
              have E72 := Lib.hid (show decide (((xs.length : Nat) : Int) < ((X.P.ev.length : Nat) : Int)) = false by simpa using g2)
              go_wp2_with (first
                | (refine blk_loadG 74 (O.get 1 rfl) rfl (wanted_of rfl rfl E72.out) rfl rfl Try.underlying33 rfl (by kernel_rfl) ?_; simp only [Act.put, List.setIfInBounds_toArray, List.set_cons_zero, List.set_cons_succ])
                | (refine blk_loadG 75 (O.get 0 rfl) rfl (wanted_of rfl rfl E72.out) rfl rfl Try.underlying33 rfl (by kernel_rfl) ?_; simp only [Act.put, List.setIfInBounds_toArray, List.set_cons_zero, List.set_cons_succ])
                | (go_at_call 26; refine (alike_same (HR1.out.kept O1.keep) (HR2.out.kept O1.keep) HLE.out HCE.out).mono ?_; rintro e W ⟨rfl, K⟩; replace O := O.keeps K; clear K c7 c9)
                | go_big_skip)
              go_ret
              exact ⟨rfl, HO.out.trans O.keep (by simp)⟩
end
end Go.Proofs.Ytakmcpadkanggaa

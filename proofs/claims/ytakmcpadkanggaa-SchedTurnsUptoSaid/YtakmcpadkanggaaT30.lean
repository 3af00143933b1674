/-
  What grows while a run goes on: events, runners, queues; sched's tell and fail.
-/
import Derived.Test.YtakmcpadkanggaaT29
import Derived.Test.YtakmcpadkanggaaHeld2
import Derived.Great.BuildSlice
import Derived.WalkLawsBesides
namespace Go.Proofs.Ytakmcpadkanggaa
open Go.RowKit Go.Maps Go.Deep

theorem info174 : ∃ i, Try.prog.info? 174 = some i ∧ i.zero = some (.agg (rnC ⟨0, 0, fun _ => 0⟩)) ∧ i.size = 10 ∧ i.bytes = 80 := by
  have h : (Try.prog.info? 174).map (fun i => (i.zero, i.size, i.bytes)) = some (some (.agg (rnC ⟨0, 0, fun _ => 0⟩)), 10, 80) := by kernel_rfl
  obtain ⟨i, hi, he⟩ := Option.map_eq_some_iff.1 h
  simp only [Prod.mk.injEq] at he
  exact ⟨i, hi, he.1, he.2.1, he.2.2⟩
section
variable {ops : Array Oper} {rest : List Oper} {o : Oper} {a : Act} {w W : World} {Q : Exit → Act → World → Prop} {L : List Ent} {r : Rw} {x0 s z : Operand}
theorem om_lit_ev (d : Nat) (e : Ev) (M : OM w W L r) (_hd : o.dst = some d) (hgd : o.guard = none) (ho : o.op = .buildSlice 31 1 #[(0, x0)]) (h0 : a.eval x0 = .agg (evC e))
    (h : ∀ u g, OM w u ((g, 37, evC e) :: L) r → wpList Try.prog ops Q rest (a.put o.dst (.slice (some ⟨g, 0, none⟩) 1 1)) u) : wpList Try.prog ops Q (o :: rest) a W := by
  obtain ⟨i, hi, hz, hs, hb⟩ := info37
  have k := (Keeps.refl W []).alloc (.cells (evC e) 37)
  refine wpList_buildSlice hgd 31 37 1 _ ho (evC e) i (.agg (evC ⟨0, 0, 0, 0, false⟩)) Try.underlying31 hi hz (by rw [hs]; decide) (by rw [hs]; decide) ?_ (h _ _ (M.add k (Blk.new _ _ _)))
  rw [hs]
  have e1 : ((#[(0, x0)] : Array (Nat × Operand)).map (fun (i, x) => (i, a.eval x))).toList = [(0, .agg (evC e))] := by simp [h0]
  rw [e1]
  have rr : Array.range 5 = #[0, 1, 2, 3, 4] := by decide
  simp [Instr.fill, rr, Value.cells, evC]
theorem om_lit_rn (d : Nat) (e : Rn) (M : OM w W L r) (_hd : o.dst = some d) (hgd : o.guard = none) (ho : o.op = .buildSlice 107 1 #[(0, x0)]) (h0 : a.eval x0 = .agg (rnC e))
    (h : ∀ u g, OM w u ((g, 174, rnC e) :: L) r → wpList Try.prog ops Q rest (a.put o.dst (.slice (some ⟨g, 0, none⟩) 1 1)) u) : wpList Try.prog ops Q (o :: rest) a W := by
  obtain ⟨i, hi, hz, hs, hb⟩ := info174
  have k := (Keeps.refl W []).alloc (.cells (rnC e) 174)
  refine wpList_buildSlice hgd 107 174 1 _ ho (rnC e) i (.agg (rnC ⟨0, 0, fun _ => 0⟩)) Try.underlying107 hi hz (by rw [hs]; decide) (by rw [hs]; decide) ?_ (h _ _ (M.add k (Blk.new _ _ _)))
  rw [hs]
  have e1 : ((#[(0, x0)] : Array (Nat × Operand)).map (fun (i, x) => (i, a.eval x))).toList = [(0, .agg (rnC e))] := by simp [h0]
  rw [e1]
  have rr : Array.range 10 = #[0, 1, 2, 3, 4, 5, 6, 7, 8, 9] := by decide
  simp [Instr.fill, rr, Value.cells, rnC]
theorem om_lit_int (d : Nat) (n0 : Int) (M : OM w W L r) (_hd : o.dst = some d) (hgd : o.guard = none) (ho : o.op = .buildSlice 25 1 #[(0, x0)]) (h0 : a.eval x0 = .int .i64 n0)
    (h : ∀ u g, OM w u ((g, 3, #[.int .i64 n0]) :: L) r → wpList Try.prog ops Q rest (a.put o.dst (.slice (some ⟨g, 0, none⟩) 1 1)) u) : wpList Try.prog ops Q (o :: rest) a W := by
  obtain ⟨i, hi, hz, hs, hb⟩ := info3
  have k := (Keeps.refl W []).alloc (.cells #[Value.int .i64 n0] 3)
  refine wpList_buildSlice hgd 25 3 1 _ ho #[.int .i64 n0] i (.int .i64 0) Try.underlying25 hi hz (by rw [hs]; decide) (by rw [hs]; decide) ?_ (h _ _ (M.add k (Blk.new _ _ _)))
  rw [hs]
  have e : ((#[(0, x0)] : Array (Nat × Operand)).map (fun (i, x) => (i, a.eval x))).toList = [(0, .int .i64 n0)] := by simp [h0]
  rw [e]
  have rr : Array.range 1 = #[0] := by decide
  simp [Instr.fill, rr, Value.cells]
theorem blk_news {W : World} {g t : Nat} {cs : Array Value} (h : Blk W g t cs) : ∀ j u, cs.toList[j]? = some u → W.cell? ((⟨g, 0, none⟩ : Addr).add j) = some u := fun j u hu => by
  rw [add_zero_, h.cell, ← Array.getElem?_toList]
  exact hu
theorem om_ev (e : Ev) (gl : Nat) (s z : Operand) (M : OM w W ((gl, 37, evC e) :: L) r) (hgd : o.guard = none) (ho : o.op = .call { callee := .builtin .append, args := #[s, z], argTypes := #[31, 31] })
    (hs : a.eval s = r.evs) (hz' : a.eval z = .slice (some ⟨gl, 0, none⟩) 1 1) (hn : r.E.length ≤ 100000)
    (h : ∀ A' c' u, OM w u L { r with evs := .slice A' (r.E.length + 1) c', E := r.E ++ [e] } → wpList Try.prog ops Q rest (a.put o.dst (.slice A' (r.E.length + 1) c')) u) : wpList Try.prog ops Q (o :: rest) a W := by
  obtain ⟨i, hi, hz, hsz, hby⟩ := info37
  have hb : w.heap.size ≤ W.heap.size := M.own.keep.size
  have hl : (evC e).toList.length = 1 * 5 := rfl
  obtain ⟨v', u, hr, h2, h3, _⟩ := run_append_own (P := Try.prog) W w.heap.size 31 o.type 37 i (.agg (evC ⟨0, 0, 0, 0, false⟩)) 5 40 Try.underlying31 hi hz hsz hby rfl (by decide) r.evs r.E.length _ M.evr ⟨gl, 0, none⟩ 1 1 (evC e).toList hl (blk_news (M.get 0 rfl)) (evC_cell e) (by simp only [maxLen]; omega) (by omega) hb
  have hf := append_fresh (w := W) (P := Try.prog) w.heap.size 31 o.type 37 i (.agg (evC ⟨0, 0, 0, 0, false⟩)) 5 40 Try.underlying31 hi hz hsz hby r.evs r.E.length _ M.evr ⟨gl, 0, none⟩ 1 1 (evC e).toList hl (blk_news (M.get 0 rfl)) (evC_cell e) (by simp only [maxLen]; omega) (by omega) (by omega) hr
  refine wpList_plain hgd fun K hK => ?_
  unfold Oper.wp execOp
  simp only [ho, resolve, invoke, builtin, Sem.run_bind, Sem.run_pure, Result.andThen_ok, List.map_toArray, List.map_cons, List.map_nil, hs, hz', hr]
  obtain ⟨A', c', rfl⟩ : ∃ A' c', v' = .slice A' (r.E.length + 1) c' := by
    rcases h2.2 with ⟨_, h0⟩ | ⟨g, cap, cur, h0, _⟩
    · omega
    · exact ⟨_, _, h0⟩
  exact hK _ _ (h _ _ _ ((M.tell h3 h2 hf).drop_ 1))
theorem om_push (y : Int) (gl c : Nat) (s z : Operand) (M : OM w W ((gl, 3, #[.int .i64 y]) :: L) r) (hgd : o.guard = none) (ho : o.op = .call { callee := .builtin .append, args := #[s, z], argTypes := #[25, 25] })
    (hc : c < r.nr) (hs : a.eval s = r.hv c) (hz' : a.eval z = .slice (some ⟨gl, 0, none⟩) 1 1) (hn : (r.held c).length ≤ 1000000)
    (h : ∀ A' m' c' u, OM w u L { r with hv := updN r.hv c (.slice A' m' c'), held := updN r.held c (r.held c ++ [y]) } → wpList Try.prog ops Q rest (a.put o.dst (.slice A' m' c')) u) : wpList Try.prog ops Q (o :: rest) a W := by
  have hb : w.heap.size ≤ W.heap.size := M.own.keep.size
  obtain ⟨v', u, hr, h2, h3, hf⟩ := run_push (w := W) w.heap.size o.type (r.hv c) (r.held c) (M.hr c hc) ⟨gl, 0, none⟩ 1 y ((M.get 0 rfl).cell 0) hb hn
  refine wpList_plain hgd fun K hK => ?_
  unfold Oper.wp execOp
  simp only [ho, resolve, invoke, builtin, Sem.run_bind, Sem.run_pure, Result.andThen_ok, List.map_toArray, List.map_cons, List.map_nil, hs, hz', hr]
  obtain ⟨A', m', c', rfl⟩ : ∃ A' m' c', v' = .slice A' m' c' := by
    rcases h2 with ⟨h0, _⟩ | ⟨g, off, cap, cur, h0, _⟩
    · exact ⟨_, _, _, h0⟩
    · exact ⟨_, _, _, h0⟩
  exact hK _ _ (h _ _ _ _ ((M.push hc h3 h2 hf).drop_ 1))
theorem om_who (x : Rn) (gl k : Nat) (s z : Operand) {gw n cw : Nat} {cur : Array Value} {rs : Nat → Rn} (M : OM w W ((gl, 174, rnC x) :: L) r) (hgd : o.guard = none) (ho : o.op = .call { callee := .builtin .append, args := #[s, z], argTypes := #[107, 107] })
    (hs : a.eval s = .slice (some ⟨gw, 0, none⟩) n cw) (hz' : a.eval z = .slice (some ⟨gl, 0, none⟩) 1 1) (hk : L[k]? = some (gw, 174, cur)) (hC : WhoC cur n rs) (hn : n ≤ 100000) (h1 : n ≤ cw) (h2 : cw ≤ maxLen) (h3 : cur.size = cw * 10)
    (h : ∀ gw' cw' cur' u, OM w u (L.set k (gw', 174, cur')) r → WhoC cur' (n + 1) (updN rs n x) → n + 1 ≤ cw' → cw' ≤ maxLen → cur'.size = cw' * 10 → wpList Try.prog ops Q rest (a.put o.dst (.slice (some ⟨gw', 0, none⟩) (n + 1) cw')) u) : wpList Try.prog ops Q (o :: rest) a W := by
  obtain ⟨i, hi, hz, hsz, hby⟩ := info174
  have hb : w.heap.size ≤ W.heap.size := M.own.keep.size
  have hl : (rnC x).toList.length = 1 * 10 := rfl
  have hk' : ((gl, 174, rnC x) :: L)[k + 1]? = some (gw, 174, cur) := hk
  have hbg : w.heap.size ≤ gw := by
    rcases Nat.lt_or_ge gw w.heap.size with hx | hx
    · exact absurd (M.own.new _ (List.mem_of_getElem? hk') hx) (by simp)
    · exact hx
  have own : W.ownsRow w.heap.size 174 10 (.slice (some ⟨gw, 0, none⟩) n cw) n (whoL rs n) := ⟨whoL_length _ _, .inr ⟨gw, cw, cur, rfl, hbg, M.get (k + 1) hk', h1, h2, h3, hC.take (by rw [h3]; exact Nat.mul_le_mul_right _ h1)⟩⟩
  obtain ⟨v', u, hr, ho2, hg, hnil⟩ := run_append_own (P := Try.prog) W w.heap.size 107 o.type 174 i (.agg (rnC ⟨0, 0, fun _ => 0⟩)) 10 80 Try.underlying107 hi hz hsz hby rfl (by decide) _ n _ own ⟨gl, 0, none⟩ 1 1 (rnC x).toList hl (blk_news (M.get 0 rfl)) (rnC_cell x) (by simp only [maxLen]; omega) (by omega) hb
  have hf := append_fresh (w := W) (P := Try.prog) w.heap.size 107 o.type 174 i (.agg (rnC ⟨0, 0, fun _ => 0⟩)) 10 80 Try.underlying107 hi hz hsz hby _ n _ own ⟨gl, 0, none⟩ 1 1 (rnC x).toList hl (blk_news (M.get 0 rfl)) (rnC_cell x) (by simp only [maxLen]; omega) (by omega) (by omega) hr
  rw [whoL_snoc] at ho2
  refine wpList_plain hgd fun K hK => ?_
  unfold Oper.wp execOp
  simp only [ho, resolve, invoke, builtin, Sem.run_bind, Sem.run_pure, Result.andThen_ok, List.map_toArray, List.map_cons, List.map_nil, hs, hz', hr]
  obtain ⟨_, ⟨_, h0⟩ | ⟨g', cap, cur', rfl, _, hB, hle, hm, hsz', ht⟩⟩ := ho2
  · omega
  · have hf' : g' = gw ∨ g' = W.heap.size := by simpa [Value.ownBlock] using hf
    have M' := (M.regrow (k + 1) hk' hbg hg hB hf').drop_ 1
    exact hK _ _ (h _ _ _ _ M' (WhoC.of_take ht) hle hm hsz')
end
section
variable {w W : World} {L : List Ent} {r : Rw} {y : Ly} {nr gw n cw : Nat}
set_option maxRecDepth 100000 in
theorem tell_any (M : OM w W L r) {i j k pw pe : Nat} (e : Ev) (hi : L[i]? = some (pw, 104, #[.pointer (some ⟨y.wp, 0, none⟩)])) (hj : L[j]? = some (pe, 37, evC e)) (hk : L[k]? = some (y.wp, 110, wpC y nr gw n cw r.evs)) (hn : r.E.length ≤ 100000) :
    Calls Try.prog 105 #[.pointer (some ⟨pw, 0, none⟩), .pointer (some ⟨pe, 0, none⟩)] W fun ev W' => ev = .returned (.tuple #[]) ∧ ∃ v', OM w W' (L.set k (y.wp, 110, wpC y nr gw n cw v')) { r with evs := v', E := r.E ++ [e] } := by
  go_enter Try.func105, Try.ntmps105
  have HQ := Lib.hid (show ∀ u, Own w u [] L → u.cell? ⟨pw, 0, none⟩ = some (.pointer (some ⟨y.wp, 0, none⟩)) ∧ u.cell? ⟨y.wp, 6, none⟩ = some r.evs from fun u O => ⟨((O.get i hi).cell 0).trans rfl, ((O.get k hk).cell 6).trans rfl⟩)
  refine wp_headH (S := fun u => Own w u [] L) 8 (by kernel_rfl) (by kernel_rfl) ?_
  replace M := M.keeps (Keeps.refl _ _).drew
  refine ah_take (f := 2) (L' := #[true, true, true, true, true, true, false, false, false, false, false]) (by first | exact M.own | exact M.own.drop_ 1) [0, 1, 2, 3, 4, 5] [_, _, _, _, _, _] _ _ rfl (by decide) (by kernel_rfl) ?_
  simp only [List.getElem_toArray, List.getElem_cons_zero, List.getElem_cons_succ]
  repeat (first
    | (refine take_load 7 rfl (by rfl) rfl rfl (fun _ h => Own.get h j hj) Try.underlying37 rfl (by kernel_rfl) ?_; simp only [Act.put, List.setIfInBounds_toArray, List.set_cons_zero, List.set_cons_succ])
    | (refine take_pure (v := ?_) (by rfl) ?_ ?_; rotate_left; (· (intro w hSw; have q := HQ.out _ hSw; have q1 := q.1; have q2 := q.2; clear hSw q; go_simp; try with_reducible rfl)); simp only [Act.put, List.setIfInBounds_toArray, List.set_cons_zero, List.set_cons_succ]))
  refine takeA_done ?_
  refine ah_sole 6 #[true, true, true, true, true, true, true, false, false, false, false] rfl (by decide) (by kernel_rfl) ?_
  try simp only [List.getElem_toArray, List.getElem_cons_zero, List.getElem_cons_succ]
  go_wp2_with (refine om_lit_ev 8 e M rfl rfl rfl rfl ?_; clear M; intro V gl M; simp only [Act.put, List.setIfInBounds_toArray, List.set_cons_zero, List.set_cons_succ])
  (first | refine backA_intro2 (by first | exact M.own | exact M.own.drop_ 1) ?_ | refine backA_intro (by first | exact M.own | exact M.own.drop_ 1) ?_)
  refine ah_sole 7 #[true, true, true, true, true, true, true, true, false, false, false] rfl (by decide) (by kernel_rfl) ?_
  try simp only [List.getElem_toArray, List.getElem_cons_zero, List.getElem_cons_succ]
  go_wp2_with (at_builtin; refine om_ev e gl (.tmp 6) (.tmp 8) M rfl rfl rfl rfl hn ?_; clear M; intro A' c' V M; simp only [Act.put, List.setIfInBounds_toArray, List.set_cons_zero, List.set_cons_succ])
  (first | refine backA_intro2 (by first | exact M.own | exact M.own.drop_ 1) ?_ | refine backA_intro (by first | exact M.own | exact M.own.drop_ 1) ?_)
  refine ah_tail (by kernel_rfl) ?_
  simp only [List.drop]
  go_wp2_with (first
    | go_big_skip
    | (refine at_store (.tmp 11) (.tmp 9) rfl ?_; refine om_store k 6 (.slice A' (r.E.length + 1) c') (.tmp 11) (.tmp 9) M rfl rfl rfl rfl rfl hk (by show 6 < 7; omega) rfl rfl (by kernel_rfl) rfl ?_; clear M; intro V M))
  refine np_intro ?_
  go_wp2
  go_end0
  exact ⟨rfl, _, M⟩
/-- 'fail' tells, and gives up. -/
theorem fail_any (M : OM w W L r) {i j k m pw pe pt : Nat} (e : Ev) (hi : L[i]? = some (pw, 104, #[.pointer (some ⟨y.wp, 0, none⟩)])) (hj : L[j]? = some (pe, 37, evC e)) (hk : L[k]? = some (y.wp, 110, wpC y nr gw n cw r.evs))
    (hm : L[m]? = some (pt, 1, #[.func (.func 105) #[] #[.pointer (some ⟨pw, 0, none⟩), .pointer (some ⟨pe, 0, none⟩)]])) (hn : r.E.length ≤ 100000) (x : Int) :
    Calls Try.prog 106 #[.int .i64 x, .pointer (some ⟨pt, 0, none⟩)] W fun ev W' => ev = .panicked [{ v := .iface 22 (.int .i64 x), recovered := false }] ∧ ∃ v', OM w W' (L.set k (y.wp, 110, wpC y nr gw n cw v')) { r with evs := v', E := r.E ++ [e] } := by
  have HT := Lib.hid (tell_any M e hi hj hk hn)
  go_enter Try.func106, Try.ntmps106
  have c0 : W.cell? ⟨pt, 0, none⟩ = some (.func (.func 105) #[] #[.pointer (some ⟨pw, 0, none⟩), .pointer (some ⟨pe, 0, none⟩)]) := ((M.get m hm).cell 0).trans rfl
  go_wp2_with (first
    | go_big_skip
    | (go_at_call 105; refine HT.out.mono ?_; rintro ev V ⟨rfl, v', M⟩; have HM := Lib.hid M; clear c0 M))
  exact ⟨rfl, rfl, _, HM.out⟩

end
end Go.Proofs.Ytakmcpadkanggaa

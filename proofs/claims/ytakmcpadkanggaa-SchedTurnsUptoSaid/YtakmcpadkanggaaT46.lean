/-
  The walk of SchedTurns.
-/
import Derived.Test.YtakmcpadkanggaaT43
import Derived.Test.YtakmcpadkanggaaT7
namespace Go.Proofs.Ytakmcpadkanggaa
open Go.ChangeShapes Go.WideShapes Go.RowKit Go.Maps Go.Deep

section
variable {w : World}
theorem run_push2 (base : Nat) (ty : TypeId) (v : Value) (xs : List Int) (h : HRow base w v xs) (ad : Addr) (c : Nat) (y : Int) (hy : w.cell? ad = some (.int .i64 y)) (hb : base ≤ w.heap.size) (hn : xs.length ≤ 4000000) :
    ∃ v' w', (Builtin.append_ #[25, 25] ty #[v, .slice (some ad) 1 c]).run Try.prog w = .ok v' w' ∧ HRow base w' v' (xs ++ [y]) ∧ w.grownBy w' v.ownBlock ∧ (v'.ownBlock = v.ownBlock ∨ v'.ownBlock = some w.heap.size) := by
  obtain ⟨i, hi, hz, hsz, hby⟩ := info3
  have hnews : ∀ j u, [Value.int .i64 y][j]? = some u → w.cell? (ad.add j) = some u := fun j u hu => by
    match j with
    | 0 => simp at hu; subst hu; exact hy
    | j + 1 => simp at hu
  have h1 : ∀ u ∈ [Value.int .i64 y], u.oneCell' = true := fun u hu => by rw [List.mem_singleton] at hu; subst hu; rfl
  rcases h with ⟨rfl, rfl⟩ | ⟨g, off, cap, cur, rfl, hbg, hB, hnc, hcm, hfit, hc⟩
  · obtain ⟨v', w', hr, ho, hg, _⟩ := run_append_own (P := Try.prog) w base 25 ty 3 i (.int .i64 0) 1 8 Try.underlying25 hi hz hsz hby rfl (by decide) (.slice none 0 0) 0 [] (World.ownsRow_nil _ _ _ _) ad 1 c [.int .i64 y] rfl hnews h1 (by simp [maxLen]) (by omega) hb
    refine ⟨v', w', hr, ?_, hg, append_fresh base 25 ty 3 i (.int .i64 0) 1 8 Try.underlying25 hi hz hsz hby (.slice none 0 0) 0 [] (World.ownsRow_nil _ _ _ _) ad 1 c [.int .i64 y] rfl hnews h1 (by simp [maxLen]) (by omega) (by omega) hr⟩
    obtain ⟨_, ⟨_, h0⟩ | ⟨g, cap, cur, rfl, hbg, hB, hle, hm, hs, ht⟩⟩ := ho
    · cases h0
    · refine .inr ⟨g, 0, cap, cur, rfl, hbg, hB, hle, hm, by omega, fun j hj => ?_⟩
      have hj0 : j = 0 := by simpa using hj
      subst hj0
      have := congrArg (fun l => l[0]?) ht
      simpa [List.getElem?_take] using this
  · by_cases hroom : xs.length + 1 ≤ cap
    · have hf := run_firstCells_some (P := Try.prog) w 1 1 ad 1 c [.int .i64 y] rfl hnews
      have hst := run_storeCells_at Try.prog g (off + xs.length) 3 [.int .i64 y] 0 cur w hB (by simp; omega) h1
      simp only [Nat.add_zero] at hst
      have hr : (Builtin.append_ #[25, 25] ty #[.slice (some ⟨g, off, none⟩) xs.length cap, .slice (some ad) 1 c]).run Try.prog w = .ok (.slice (some ⟨g, off, none⟩) (xs.length + 1) cap) (w.setRow g (cur.toList.take (off + xs.length) ++ [Value.int .i64 y] ++ cur.toList.drop (off + xs.length + [Value.int IntKind.i64 y].length)).toArray) := by
        simp [Builtin.append_, run_underlying Try.underlying25, sizeOf, typeInfo, hi, hsz, Builtin.lenOf, hroom, hf, Addr.add_mid, hst]
      refine ⟨_, _, hr, .inr ⟨g, off, cap, _, by simp, hbg, setRow_heap w g cur _ 3 _ hB, by simpa using hroom, hcm, ?_, fun j hj => ?_⟩, ⟨rfl, rfl, rfl, by simp, fun k _ hk => setRow_other w g k _ (fun e => hk (by simp [Value.ownBlock, e]))⟩, .inl rfl⟩
      · simp; omega
      · simp only [List.length_append, List.length_singleton] at hj
        have hsz2 : off + xs.length ≤ cur.toList.length := by simp; omega
        rw [List.getElem?_toArray, List.append_assoc]
        by_cases hj' : j < xs.length
        · rw [List.getElem?_append_left (by rw [List.length_take]; omega), List.getElem?_take, if_pos (by omega), Array.getElem?_toList, hc j hj']
          rw [List.getD_eq_getElem?_getD, List.getD_eq_getElem?_getD, List.getElem?_append_left hj']
        · obtain rfl : j = xs.length := by omega
          rw [List.getElem?_append_right (by rw [List.length_take]; omega), List.length_take, Nat.min_eq_left hsz2]
          simp
    · have holds : ∀ j u, (xs.map fun x => Value.int .i64 x)[j]? = some u → w.cell? ((⟨g, off, none⟩ : Addr).add j) = some u := fun j u hu => by
        rw [List.getElem?_map] at hu
        rcases Nat.lt_or_ge j xs.length with hj | hj
        · rw [Addr.add_mid, hB.cell, hc j hj]
          rw [List.getElem?_eq_getElem hj] at hu
          rw [← hu, List.getD_eq_getElem?_getD, List.getElem?_eq_getElem hj]
          rfl
        · rw [List.getElem?_eq_none hj] at hu
          cases hu
      have hr := run_append_grow (P := Try.prog) w 25 ty 3 i (.int .i64 0) Try.underlying25 hi hz ⟨g, off, none⟩ xs.length cap (xs.map fun x => .int .i64 x) (by rw [hsz]; simp) holds ad 1 c [.int .i64 y] (by rw [hsz]; rfl) hnews (by omega) (by omega) (growslice_fits (by omega) (by rw [hby]; omega))
      have hge := grownCap_ge w (xs.length + 1) cap 3
      have hcm2 : grownCap w (xs.length + 1) cap 3 ≤ maxLen := grownCap_le_maxLen w (xs.length + 1) cap 3 (by simp only [maxLen]; omega)
      refine ⟨_, _, hr, .inr ⟨w.heap.size, 0, _, _, by simp, hb, heap_alloc_new w.drew _, by simpa using hge, hcm2, ?_, fun j hj => ?_⟩, ⟨rfl, rfl, rfl, by simp, fun k hk _ => heap_alloc_old w.drew _ hk⟩, .inr rfl⟩
      · have z1 : (Value.int .i64 0).cells.size = 1 := rfl
        simp only [Array.size_append, List.size_toArray, size_zeroCells, z1, List.length_map, List.length_singleton]
        omega
      · simp only [List.length_append, List.length_singleton] at hj
        rw [Nat.zero_add, Array.getElem?_append_left (by simp; omega)]
        by_cases hj' : j < xs.length
        · rw [Array.getElem?_append_left (by simpa using hj'), List.getElem?_toArray, List.getElem?_map, List.getD_eq_getElem?_getD, List.getElem?_append_left hj', List.getElem?_eq_getElem hj']
          rfl
        · obtain rfl : j = xs.length := by omega
          rw [Array.getElem?_append_right (by simp)]
          simp
end
section
variable {ops : Array Oper} {rest : List Oper} {o : Oper} {a : Act} {w W : World} {Q : Exit → Act → World → Prop} {L : List Ent} {r : Rw} {x : Operand}
theorem om_push2 (y : Int) (gl c : Nat) (s z : Operand) (M : OM w W ((gl, 3, #[.int .i64 y]) :: L) r) (hgd : o.guard = none) (ho : o.op = .call { callee := .builtin .append, args := #[s, z], argTypes := #[25, 25] })
    (hc : c < r.nr) (hs : a.eval s = r.hv c) (hz' : a.eval z = .slice (some ⟨gl, 0, none⟩) 1 1) (hn : (r.held c).length ≤ 4000000)
    (h : ∀ A' m' c' u, OM w u L { r with hv := updN r.hv c (.slice A' m' c'), held := updN r.held c (r.held c ++ [y]) } → wpList Try.prog ops Q rest (a.put o.dst (.slice A' m' c')) u) : wpList Try.prog ops Q (o :: rest) a W := by
  have hb : w.heap.size ≤ W.heap.size := M.own.keep.size
  obtain ⟨v', u, hr, h2, h3, hf⟩ := run_push2 (w := W) w.heap.size o.type (r.hv c) (r.held c) (M.hr c hc) ⟨gl, 0, none⟩ 1 y ((M.get 0 rfl).cell 0) hb hn
  refine wpList_plain hgd fun K hK => ?_
  unfold Oper.wp execOp
  simp only [ho, resolve, invoke, builtin, Sem.run_bind, Sem.run_pure, Result.andThen_ok, List.map_toArray, List.map_cons, List.map_nil, hs, hz', hr]
  obtain ⟨A', m', c', rfl⟩ : ∃ A' m' c', v' = .slice A' m' c' := by
    rcases h2 with ⟨h0, _⟩ | ⟨g, off, cap, cur, h0, _⟩
    · exact ⟨_, _, _, h0⟩
    · exact ⟨_, _, _, h0⟩
  exact hK _ _ (h _ _ _ _ ((M.push hc h3 h2 hf).drop_ 1))
theorem wanted_of {o : Oper} {ys : Nat → Option Bool} {j : Nat} {b want : Bool} (h : o.guard = some (j, want)) (hy : ys j = some b) (hb : b = want) : Region.wanted o ys = true := by
  unfold Region.wanted
  rw [h]
  subst hb
  simp [hy]
/-- A guarded load of a known row. -/
theorem blk_loadG {P : Program} {ty g t : Nat} {cs : Array Value} {e : TypeDesc} (d : Nat) (B : Blk W g t cs) (_hd : o.dst = some d) (hw : Region.wanted o (yielded ops a.tmps) = true) (ho : o.op = .load ty x) (hx : a.eval x = .pointer (some ⟨g, 0, none⟩))
    (hu : P.underlying ty = some e) (he : (match e with | .struct _ | .array _ _ => true | _ => false) = true) (hi : (P.info? ty).map (·.size) = some cs.size)
    (h : wpList P ops Q rest (a.put o.dst (.agg cs)) W) : wpList P ops Q (o :: rest) a W := by
  have hr : (loadVar ty ⟨g, 0, none⟩).run P W = .ok (.agg cs) W := run_loadVar_row W g t ty cs (0, 0) e B hu he hi
  simp only [wpList, hw, if_true]
  left
  unfold Oper.wp execOp
  simp only [ho, hx, Instr.loadAt, Instr.sureAddr, Sem.run_bind, Sem.run_pure, Result.andThen_ok, hr]
  exact h
end
theorem kind3 : Try.prog.intKind 3 = .i64 := by kernel_rfl
theorem conv_i8 {x y : Int} (h : wrap64 x = y) (w : World) : (convert 44 3 (.int .i8 x)).run Try.prog w = .ok (.int .i64 y) w := by
  rw [run_convert_int (P := Try.prog) w 44 3 .i8 x (by kernel_rfl) (by rw [kind3]; exact Try.underlying3), kind3, ← h, IntWalk.i64_left]
theorem conv_i16 {x y : Int} (h : wrap64 x = y) (w : World) : (convert 43 3 (.int .i16 x)).run Try.prog w = .ok (.int .i64 y) w := by
  rw [run_convert_int (P := Try.prog) w 43 3 .i16 x (by kernel_rfl) (by rw [kind3]; exact Try.underlying3), kind3, ← h, IntWalk.i64_left]
theorem conv_arm {o : Oper} {a : Act} {S D : TypeId} {x : Operand} {v u : Value} (ho : o.op = .convert S D x) (hx : a.eval x = v) (h : ∀ w, (convert S D v).run Try.prog w = .ok u w) (w : World) : (execOp a.eval o).run Try.prog w = .ok (.value u) w := by
  unfold execOp
  simp only [ho, hx, Sem.run_bind, h, Result.andThen_ok, Sem.run_pure]
theorem HRow.list {base : Nat} {W : World} {v : Value} {xs : List Int} (h : HRow base W v xs) : IntL W v xs := by
  obtain ⟨A, c, e, _, _, hc⟩ := h.cells
  refine ⟨A, c, e, fun hn => ?_⟩
  obtain ⟨ad, e1, hx⟩ := hc hn
  have h0 := World.block_lt_of_cell? W _ (hx 0 hn)
  rw [add_block] at h0
  exact ⟨ad, e1, h0, hx⟩
/-- A list of small integers. -/
def IntL8 (W : World) (v : Value) (xs : List Int) : Prop := ∃ A c, v = .slice A xs.length c ∧ (0 < xs.length → ∃ ad, A = some ad ∧ ad.block < W.heap.size ∧ ∀ j, j < xs.length → W.cell? (ad.add j) = some (.int .i8 (xs.getD j 0)))
theorem RunV.cell {W : World} {S : Sys} {X : RunP} {v : Value} (h : RunV W S X v) : ∃ cs : Array Value, v = .agg cs ∧ cs.size = 5 ∧ (∀ u ∈ cs.toList, u.oneCell' = true) ∧ cs[3]? = some (.int .i64 (X.P.n : Nat)) := by
  obtain ⟨A, c, cells, m, rfl, _, _, _, _, hI⟩ := h
  obtain ⟨A', c', rfl, _⟩ := hI
  exact ⟨_, rfl, rfl, runC_cell _ _ _ _ _ rfl rfl, rfl⟩
section
variable {w : World} {S : Sys} {A : Option Addr} {c0 : Nat} {R : Option Addr} {d : Nat} {pv : Value} {z : Int}
set_option maxRecDepth 100000 in
theorem sturns_bad (hS : SysIn w S A c0 R d) (hv : validB S = false) : Calls Try.prog 8 #[.agg (sysV S A c0 R d), pv, .int .i16 z] w fun e w' => e = .returned (.bool true) ∧ Keeps w w' [] := by
  have O := Own.start w []
  have HR := Lib.hid (fun u (k : Keeps w u []) => show Calls Try.prog 23 #[.agg (sysV S A c0 R d)] u fun e w' => e = .returned (.bool false) ∧ Keeps u w' [] from by have := refvalid_any (hS.kept k); rwa [hv] at this)
  clear hv hS
  go_enter Try.func8, Try.ntmps8
  go_wp2_with (first
    | (refine own_box 3 (sysV S A c0 R d) O rfl rfl rfl rfl ?_; clear O; intro W b3 O; simp only [Act.put, List.setIfInBounds_toArray, List.set_cons_zero, List.set_cons_succ])
    | (refine own_load 17 0 O rfl rfl rfl rfl rfl Try.underlying27 rfl (by kernel_rfl) ?_; simp only [Act.put, List.setIfInBounds_toArray, List.set_cons_zero, List.set_cons_succ])
    | (go_at_call 24; refine awake_any.mono ?_; rintro e W ⟨rfl, K⟩; replace O := O.keeps K; clear K)
    | (go_at_call 23; refine (HR.out _ O.keep).mono ?_; rintro e W ⟨rfl, K⟩; replace O := O.keeps K; clear K)
    | go_big_skip)
  go_ret
  exact ⟨rfl, O.keep⟩
set_option maxRecDepth 100000 in
theorem sturns_many (hS : SysIn w S A c0 R d) (hv : validB S = true) (hnp : 4 < S.np) : Calls Try.prog 8 #[.agg (sysV S A c0 R d), pv, .int .i16 z] w fun e w' => e = .returned (.bool true) ∧ Keeps w w' [] := by
  have O := Own.start w []
  have HR := Lib.hid (fun u (k : Keeps w u []) => show Calls Try.prog 23 #[.agg (sysV S A c0 R d)] u fun e w' => e = .returned (.bool true) ∧ Keeps u w' [] from by have := refvalid_any (hS.kept k); rwa [hv] at this)
  have g1 : (4 : Int) < S.np := by omega
  clear hv hS hnp
  go_enter Try.func8, Try.ntmps8
  go_wp2_with (first
    | (refine own_box 3 (sysV S A c0 R d) O rfl rfl rfl rfl ?_; clear O; intro W b3 O; simp only [Act.put, List.setIfInBounds_toArray, List.set_cons_zero, List.set_cons_succ])
    | (refine own_load 17 0 O rfl rfl rfl rfl rfl Try.underlying27 rfl (by kernel_rfl) ?_; simp only [Act.put, List.setIfInBounds_toArray, List.set_cons_zero, List.set_cons_succ])
    | (go_at_call 24; refine awake_any.mono ?_; rintro e W ⟨rfl, K⟩; replace O := O.keeps K; clear K)
    | (go_at_call 23; refine (HR.out _ O.keep).mono ?_; rintro e W ⟨rfl, K⟩; replace O := O.keeps K; clear K; have c2 : W.cell? ⟨b3, 0, none⟩ = some (.slice A S.np c0) := (O.get 0 rfl).cell 0)
    | go_big_skip)
  go_ret
  exact ⟨rfl, O.keep⟩
set_option maxRecDepth 100000 in
set_option maxHeartbeats 4000000 in
theorem sturns_good {xs : List Int} (hS : SysIn w S A c0 R d) (hv : validB S = true) (hnp : S.np ≤ 4) (hp : IntL8 w pv xs) (hx : ∀ x ∈ xs, -128 ≤ x ∧ x < 128) (hz : -32768 ≤ z ∧ z < 32768) (hl : xs.length ≤ 2000000) :
    Calls Try.prog 8 #[.agg (sysV S A c0 R d), pv, .int .i16 z] w fun e w' => e = .returned (.bool true) ∧ Keeps w w' [] := by
  have O := Own.start w []
  have HR := Lib.hid (fun u (k : Keeps w u []) => show Calls Try.prog 23 #[.agg (sysV S A c0 R d)] u fun e w' => e = .returned (.bool true) ∧ Keeps u w' [] from by have := refvalid_any (hS.kept k); rwa [hv] at this)
  have HP := Lib.hid (fun u (k : Keeps w u []) pv picks (h : IntL u pv picks) => playV (hS.kept k) hv h)
  have HT := Lib.hid (play_turns S xs z)
  have HLE := Lib.hid (fun picks => (play_locks S hv picks).1.2.2.2)
  have hce : S.ce ≤ 64 := by
    have := ((headB_iff S).1 ((validB_iff S).1 hv).1).2.2.2.2.2
    rw [shB_iff] at this
    omega
  have HCE := Lib.hid hce
  have g1 : ¬ (4 : Int) < S.np := by omega
  obtain ⟨Ap, cp, rfl, hpc⟩ := hp
  have HPC := Lib.hid hpc
  have HX := Lib.hid hx
  have HL := Lib.hid hl
  have g9 : xs.length ≤ 2000000 := hl
  obtain ⟨q, hq⟩ : ∃ q, q = z * 27720 := ⟨_, rfl⟩
  have HQ := Lib.hid hq
  have e1 : wrap64 z = z := IntWalk.wrap64_in _ (by omega)
  have e2 : wrap64 (z * 27720) = q := by rw [hq]; exact IntWalk.wrap64_in _ (by omega)
  have HQ2 := Lib.hid (show -1000000000 ≤ q ∧ q ≤ 1000000000 by omega)
  clear hpc hx hq hz hS hv hnp hce hl
  generalize hn : xs.length = n at *
  have HN := Lib.hid hn
  clear hn
  go_enter Try.func8, Try.ntmps8
  go_wp2_with (first
    | (refine own_box 3 (sysV S A c0 R d) O rfl rfl rfl rfl ?_; clear O; intro W b3 O; simp only [Act.put, List.setIfInBounds_toArray, List.set_cons_zero, List.set_cons_succ])
    | (refine own_load 17 0 O rfl rfl rfl rfl rfl Try.underlying27 rfl (by kernel_rfl) ?_; simp only [Act.put, List.setIfInBounds_toArray, List.set_cons_zero, List.set_cons_succ])
    | (go_at_call 24; refine awake_any.mono ?_; rintro e W ⟨rfl, K⟩; replace O := O.keeps K; clear K)
    | (go_at_call 23; refine (HR.out _ O.keep).mono ?_; rintro e W ⟨rfl, K⟩; replace O := O.keeps K; clear K; have c2 : W.cell? ⟨b3, 0, none⟩ = some (.slice A S.np c0) := (O.get 0 rfl).cell 0)
    | go_big_skip)
  clear c2
  have M : OM w W [(b3, 27, sysV S A c0 R d)] ⟨.slice none 0 0, [], 2, fun _ => .slice none 0 0, fun _ => []⟩ := ⟨O, World.ownsRow_nil _ _ _ _, fun c _ => HRow.nil _ _, fun q _ h => (by cases h), fun c _ q _ h => (by cases h), fun c c' _ _ _ g h => (by cases h)⟩
  clear O
  go_loopw [28, 7, 8] (fun i u v wr => ∃ k hv held, k ≤ n ∧ i = .int .i64 (k : Nat) ∧ u = hv 0 ∧ v = hv 1 ∧ held 0 = xs.take k ∧ held 1 = (xs.take k).map (fun x => x + q) ∧ OM w wr [(b3, 27, sysV S A c0 R d)] ⟨.slice none 0 0, [], 2, hv, held⟩) (fun i _ _ _ => n - (intOf i).toNat)
  case atStart => exact ⟨0, fun _ => .slice none 0 0, fun _ => [], by omega, rfl, rfl, rfl, by simp, by simp, M⟩
  case round =>
    clear M
    obtain ⟨k, hv, held, hk, rfl, rfl, rfl, hh0, hh1, M⟩ := hrel
    by_cases hlt : k < n
    · have g2 : (k : Int) < n := by omega
      have g3 : (0 : Int) ≤ k := by omega
      obtain ⟨ad, rfl, hb, hc⟩ := HPC.out (by omega)
      have ck : wr.cell? (ad.add k) = some (.int .i8 (xs.getD k 0)) := (M.own.keep.cellAt (by rw [add_block]; exact hb) (by simp)).trans (hc k hlt)
      have hlt' : k < xs.length := by rw [HN.out]; exact hlt
      have hxk : xs.getD k 0 ∈ xs := by rw [List.getD_eq_getElem?_getD, List.getElem?_eq_getElem hlt']; exact List.getElem_mem hlt'
      have hxr := HX.out _ hxk
      have htk : xs.take (k + 1) = xs.take k ++ [xs.getD k 0] := by
        rw [List.take_succ_eq_append_getElem hlt', List.getD_eq_getElem?_getD, List.getElem?_eq_getElem hlt']
        rfl
      have HTK := Lib.hid htk
      generalize xs.getD k 0 = x at *
      have e3 : wrap64 x = x := IntWalk.wrap64_in _ (by omega)
      obtain ⟨y, hy⟩ : ∃ y, y = x + q := ⟨_, rfl⟩
      have e4 : wrap64 (x + q) = y := by rw [hy]; exact IntWalk.wrap64_in _ (by have := HQ2.out; omega)
      have HYY := Lib.hid hy
      have HH := Lib.hid (And.intro hh0 hh1)
      have HL0 := Lib.hid (show (held 0).length ≤ 4000000 by rw [hh0]; have := HL.out; have h2 : (xs.take k).length ≤ k := List.length_take_le _ _; omega)
      have HL1 := Lib.hid (show (held 1).length ≤ 4000000 by rw [hh1, List.length_map]; have := HL.out; have h2 : (xs.take k).length ≤ k := List.length_take_le _ _; omega)
      clear hc hb hlt' hxk hxr htk hy hh0 hh1
      go_wp2_with (first
        | (refine wpList_const 34 (.int .i64 x) rfl rfl (conv_arm rfl rfl (conv_i8 e3)) ?_; simp only [Act.put, List.setIfInBounds_toArray, List.set_cons_zero, List.set_cons_succ])
        | (refine wpList_const 39 (.int .i64 x) rfl rfl (conv_arm rfl rfl (conv_i8 e3)) ?_; simp only [Act.put, List.setIfInBounds_toArray, List.set_cons_zero, List.set_cons_succ])
        | (refine wpList_const 41 (.int .i64 z) rfl rfl (conv_arm rfl rfl (conv_i16 e1)) ?_; simp only [Act.put, List.setIfInBounds_toArray, List.set_cons_zero, List.set_cons_succ])
        | (refine wpList_const 42 (.int .i64 q) rfl rfl (fun w => by go_simp; exact (IntWalk.i64_left _).trans e2) ?_; simp only [Act.put, List.setIfInBounds_toArray, List.set_cons_zero, List.set_cons_succ])
        | (refine wpList_const 43 (.int .i64 y) rfl rfl (fun w => by go_simp; exact (IntWalk.i64_left _).trans e4) ?_; simp only [Act.put, List.setIfInBounds_toArray, List.set_cons_zero, List.set_cons_succ])
        | (refine om_lit_int 35 x M rfl rfl rfl rfl ?_; clear M ck; intro W gl M; simp only [Act.put, List.setIfInBounds_toArray, List.set_cons_zero, List.set_cons_succ])
        | (refine om_lit_int 44 y M rfl rfl rfl rfl ?_; clear M; intro W gl M; simp only [Act.put, List.setIfInBounds_toArray, List.set_cons_zero, List.set_cons_succ])
        | (at_builtin; refine om_push2 x gl 0 (.tmp 32) (.tmp 35) M rfl rfl (by show 0 < 2; omega) rfl rfl HL0.out ?_; clear M; intro A' m' c' W M; simp only [Act.put, List.setIfInBounds_toArray, List.set_cons_zero, List.set_cons_succ])
        | (at_builtin; refine om_push2 y gl 1 (.tmp 37) (.tmp 44) M rfl rfl (by show 1 < 2; omega) rfl rfl HL1.out ?_; clear M; intro A2 m2 c2 W M; simp only [Act.put, List.setIfInBounds_toArray, List.set_cons_zero, List.set_cons_succ])
        | go_big_skip)
      clear e3 e4
      go_roundw
      case measure => (simp [intOf] <;> omega)
      case rel =>
        refine ⟨k + 1, _, _, by omega, by go_num, ?_, ?_, ?_, ?_, M⟩
        · rfl
        · rfl
        · show held 0 ++ [x] = _
          rw [HTK.out, HH.out.1]
        · show held 1 ++ [y] = _
          rw [HTK.out, HH.out.2, HYY.out]
          simp
    · obtain rfl : k = n := by omega
      have hxs : xs.take k = xs := by rw [List.take_of_length_le]; rw [HN.out]; exact Nat.le_refl _
      rw [hxs] at hh0 hh1
      have h0 := (M.hr 0 (by show 0 < 2; omega)).list
      have h1 := (M.hr 1 (by show 1 < 2; omega)).list
      simp only [hh0, hh1] at h0 h1
      have HI := Lib.hid (And.intro h0 h1)
      have O := M.own
      have HP1 := Lib.hid (HP.out _ O.keep _ _ HI.out.1)
      have HP2 := Lib.hid (fun u (k : Keeps wr u []) => HP.out u (O.keep.trans k (by simp)) _ _ (HI.out.2.kept k))
      have HE1 := Lib.hid (HLE.out xs)
      clear hh0 hh1 hxs h0 h1 M e1 e2 HP HI HPC HX
      by_cases h12 : (playP S xs).P.n ≤ 12
      · have hxy := HT.out h12
        rw [← HQ.out] at hxy
        rw [← hxy] at HP2
        clear hxy HT
        generalize playP S xs = X at *
        have g12 : ¬ (12 : Int) < (X.P.n : Nat) := by omega
        have E12 := Lib.hid (show decide ((12 : Int) < (X.P.n : Nat)) = false by simpa using g12)
        clear h12
        go_wp2_with (first
          | (refine own_load 48 0 O rfl rfl rfl rfl rfl Try.underlying27 rfl (by kernel_rfl) ?_; simp only [Act.put, List.setIfInBounds_toArray, List.set_cons_zero, List.set_cons_succ])
          | (go_at_call 25; refine HP1.out.mono ?_; rintro e W ⟨v1, rfl, hR1, K⟩; have HR1 := Lib.hid hR1; obtain ⟨cs1, rfl, hs1, hc1, hn1⟩ := hR1.cell; have HS1 := Lib.hid (And.intro hs1 (And.intro hc1 hn1)); have HK1 := Lib.hid K; replace O := O.keeps K; have HB3 := Lib.hid (O.get 0 rfl); have HO := Lib.hid O; clear O; have O := Own.start W []; clear hR1 hs1 hc1 hn1 K HP1)
          | (refine own_alloc 11 (#[Value.int .i64 0, .int .i64 0, .slice none 0 0, .int .i64 0, .slice none 0 0]) O rfl rfl rfl (fun _ => by kernel_rfl) ?_; clear O; intro W r11 O; simp only [Act.put, List.setIfInBounds_toArray, List.set_cons_zero, List.set_cons_succ])
          | (refine own_store_row 0 (.tmp 11) (.tmp 51) (cs' := cs1) O rfl rfl rfl rfl rfl rfl (by rw [HS1.out.1]; kernel_rfl) HS1.out.1.symm HS1.out.2.1 ?_; clear O; intro W O; simp only [List.set_cons_zero] at O)
          | (refine wpList_load_blk 54 rfl rfl rfl rfl (HB3.out.keeps O.keep (by simp)) Try.underlying27 rfl (by kernel_rfl) ?_; simp only [Act.put, List.setIfInBounds_toArray, List.set_cons_zero, List.set_cons_succ])
          | (go_at_call 25; refine (HP2.out _ (HK1.out.trans O.keep (by simp))).mono ?_; rintro e W ⟨v2, rfl, hR2, K⟩; have HR2 := Lib.hid hR2; obtain ⟨cs2, rfl, hs2, hc2, hn2⟩ := hR2.cell; have HS2 := Lib.hid (And.intro hs2 (And.intro hc2 hn2)); replace HR1 := Lib.hid (HR1.out.kept (O.keep.trans K (by simp))); have HB11 := Lib.hid ((O.get 0 rfl).keeps K (by simp)); have HO2 := Lib.hid (HO.out.keep.trans (O.keep.trans K (by simp)) (by simp)); clear O; have O := Own.start W []; clear hR2 hs2 hc2 hn2 K HP2 HK1)
          | (refine own_alloc 13 (#[Value.int .i64 0, .int .i64 0, .slice none 0 0, .int .i64 0, .slice none 0 0]) O rfl rfl rfl (fun _ => by kernel_rfl) ?_; clear O; intro W r13 O; simp only [Act.put, List.setIfInBounds_toArray, List.set_cons_zero, List.set_cons_succ])
          | (refine own_store_row 0 (.tmp 13) (.tmp 57) (cs' := cs2) O rfl rfl rfl rfl rfl rfl (by rw [HS2.out.1]; kernel_rfl) HS2.out.1.symm HS2.out.2.1 ?_; clear O; intro W O; simp only [List.set_cons_zero] at O; have c11 : W.cell? ⟨r11, 3, none⟩ = some (.int .i64 (X.P.n : Nat)) := ((HB11.out.keeps O.keep (by simp)).cell 3).trans HS1.out.2.2; have c13 : W.cell? ⟨r13, 3, none⟩ = some (.int .i64 (X.P.n : Nat)) := ((O.get 0 rfl).cell 3).trans HS2.out.2.2)
          | (refine blk_loadG 74 (HB11.out.keeps O.keep (by simp)) rfl (wanted_of rfl rfl E12.out) rfl rfl Try.underlying33 rfl (by rw [HS1.out.1]; kernel_rfl) ?_; simp only [Act.put, List.setIfInBounds_toArray, List.set_cons_zero, List.set_cons_succ])
          | (refine blk_loadG 75 (O.get 0 rfl) rfl (wanted_of rfl rfl E12.out) rfl rfl Try.underlying33 rfl (by rw [HS2.out.1]; kernel_rfl) ?_; simp only [Act.put, List.setIfInBounds_toArray, List.set_cons_zero, List.set_cons_succ])
          | (go_at_call 26; refine (alike_same (HR1.out.kept O.keep) (HR2.out.kept O.keep) HE1.out HCE.out).mono ?_; rintro e W ⟨rfl, K⟩; replace O := O.keeps K; clear K c11 c13)
          | go_big_skip)
        go_ret
        exact ⟨rfl, HO2.out.trans O.keep (by simp)⟩
      · have g12 : (12 : Int) < ((playP S xs).P.n : Nat) := by omega
        clear h12 HT
        generalize playP S xs = X at *
        generalize playP S (xs.map fun x => x + q) = Y at *
        go_wp2_with (first
          | (refine own_load 48 0 O rfl rfl rfl rfl rfl Try.underlying27 rfl (by kernel_rfl) ?_; simp only [Act.put, List.setIfInBounds_toArray, List.set_cons_zero, List.set_cons_succ])
          | (go_at_call 25; refine HP1.out.mono ?_; rintro e W ⟨v1, rfl, hR1, K⟩; have HR1 := Lib.hid hR1; obtain ⟨cs1, rfl, hs1, hc1, hn1⟩ := hR1.cell; have HS1 := Lib.hid (And.intro hs1 (And.intro hc1 hn1)); have HK1 := Lib.hid K; replace O := O.keeps K; have HB3 := Lib.hid (O.get 0 rfl); have HO := Lib.hid O; clear O; have O := Own.start W []; clear hR1 hs1 hc1 hn1 K HP1)
          | (refine own_alloc 11 (#[Value.int .i64 0, .int .i64 0, .slice none 0 0, .int .i64 0, .slice none 0 0]) O rfl rfl rfl (fun _ => by kernel_rfl) ?_; clear O; intro W r11 O; simp only [Act.put, List.setIfInBounds_toArray, List.set_cons_zero, List.set_cons_succ])
          | (refine own_store_row 0 (.tmp 11) (.tmp 51) (cs' := cs1) O rfl rfl rfl rfl rfl rfl (by rw [HS1.out.1]; kernel_rfl) HS1.out.1.symm HS1.out.2.1 ?_; clear O; intro W O; simp only [List.set_cons_zero] at O)
          | (refine wpList_load_blk 54 rfl rfl rfl rfl (HB3.out.keeps O.keep (by simp)) Try.underlying27 rfl (by kernel_rfl) ?_; simp only [Act.put, List.setIfInBounds_toArray, List.set_cons_zero, List.set_cons_succ])
          | (go_at_call 25; refine (HP2.out _ (HK1.out.trans O.keep (by simp))).mono ?_; rintro e W ⟨v2, rfl, hR2, K⟩; have HR2 := Lib.hid hR2; obtain ⟨cs2, rfl, hs2, hc2, hn2⟩ := hR2.cell; have HS2 := Lib.hid (And.intro hs2 (And.intro hc2 hn2)); replace HR1 := Lib.hid (HR1.out.kept (O.keep.trans K (by simp))); have HB11 := Lib.hid ((O.get 0 rfl).keeps K (by simp)); have HO2 := Lib.hid (HO.out.keep.trans (O.keep.trans K (by simp)) (by simp)); clear O; have O := Own.start W []; clear hR2 hs2 hc2 hn2 K HP2 HK1)
          | (refine own_alloc 13 (#[Value.int .i64 0, .int .i64 0, .slice none 0 0, .int .i64 0, .slice none 0 0]) O rfl rfl rfl (fun _ => by kernel_rfl) ?_; clear O; intro W r13 O; simp only [Act.put, List.setIfInBounds_toArray, List.set_cons_zero, List.set_cons_succ])
          | (refine own_store_row 0 (.tmp 13) (.tmp 57) (cs' := cs2) O rfl rfl rfl rfl rfl rfl (by rw [HS2.out.1]; kernel_rfl) HS2.out.1.symm HS2.out.2.1 ?_; clear O; intro W O; simp only [List.set_cons_zero] at O; have c11 : W.cell? ⟨r11, 3, none⟩ = some (.int .i64 (X.P.n : Nat)) := ((HB11.out.keeps O.keep (by simp)).cell 3).trans HS1.out.2.2; have c13 : W.cell? ⟨r13, 3, none⟩ = some (.int .i64 (Y.P.n : Nat)) := ((O.get 0 rfl).cell 3).trans HS2.out.2.2)
          | go_big_skip)
        go_ret
        exact ⟨rfl, HO2.out.trans O.keep (by simp)⟩
end
end Go.Proofs.Ytakmcpadkanggaa

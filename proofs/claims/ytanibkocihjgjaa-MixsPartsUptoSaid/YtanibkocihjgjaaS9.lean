/-
  A slice of states that a call makes; States of mixs and of the reference.
-/
import Derived.Test.YtanibkocihjgjaaS7
import Derived.OwnWalk
import Derived.Great.BuildSlice
import Derived.Maps.AppendAt
import Derived.Laws.OwnMore
namespace Go.Proofs.Ytanibkocihjgjaa
open Go.RowKit

/-! ### n states, one behind the other -/
def fl (F : Nat → Nat → BitVec 32) : Nat → List Value
  | 0 => []
  | n + 1 => fl F n ++ (words 16 (F n)).toList
theorem fl_length (F : Nat → Nat → BitVec 32) : ∀ n, (fl F n).length = n * 16
  | 0 => rfl
  | n + 1 => by
    unfold fl
    rw [List.length_append, fl_length F n, Array.length_toList, words_size]
    omega
theorem fl_get (F : Nat → Nat → BitVec 32) (i j : Nat) (hj : j < 16) : ∀ n, i < n → (fl F n)[16 * i + j]? = some (U32 (F i j))
  | 0, h => by omega
  | n + 1, h => by
    unfold fl
    rw [List.getElem?_append, fl_length]
    by_cases hi : i < n
    · rw [if_pos (by omega), fl_get F i j hj n hi]
    · obtain rfl : i = n := by omega
      rw [if_neg (by omega), show 16 * i + j - i * 16 = j from by omega, Array.getElem?_toList, words_get _ _ _ hj]
theorem info23 : ∃ i z, Try.prog.info? 23 = some i ∧ i.zero = some z ∧ z.cells.size = 16 ∧ i.size = 16 ∧ i.bytes = 64 ∧ z = .agg (words 16 fun _ => 0) := by
  have h : (Try.prog.info? 23).map (fun i => (i.zero, i.size, i.bytes)) = some (some (.agg (words 16 fun _ => 0)), 16, 64) := by kernel_rfl
  cases hq : Try.prog.info? 23 with
  | none => rw [hq] at h; cases h
  | some i =>
    rw [hq] at h
    simp only [Option.map_some, Option.some.injEq, Prod.mk.injEq] at h
    exact ⟨i, _, rfl, h.1, by simp [Value.cells, words_size], h.2.1, h.2.2, rfl⟩
theorem Keeps.grown {w w' : World} {row : Option Nat} (h : w.grownBy w' row) : Keeps w w' row.toList :=
  ⟨h.os, h.tape, h.output, h.size, fun b hb hn => h.block b hb (fun e => hn (by rw [← e]; simp))⟩

/-- The slice that the call itself makes: n states. -/
def Sts (w W : World) (v : Value) (n : Nat) (F : Nat → Nat → BitVec 32) : Prop := W.ownsRow w.heap.size 23 16 v n (fl F n)
/-- None of the known blocks is the slice's. -/
def Off (L : List Ent) (v : Value) : Prop := ∀ q ∈ L, some q.1 ≠ v.ownBlock
theorem Off.same {L L' : List Ent} {v : Value} (h : Off L v) (e : L'.map (·.1) = L.map (·.1)) : Off L' v := fun q hq he => by
  have h1 : q.1 ∈ L.map (·.1) := by rw [← e]; exact List.mem_map.2 ⟨q, hq, rfl⟩
  obtain ⟨q', hq', e'⟩ := List.mem_map.1 h1
  exact h q' hq' (by rw [e']; exact he)
theorem Sts.keeps {w W u : World} {v : Value} {n : Nat} {F : Nat → Nat → BitVec 32} {S : List Nat} (h : Sts w W v n F) (k : Keeps W u S) (hS : ∀ b ∈ S, some b ≠ v.ownBlock) : Sts w u v n F := by
  refine ⟨h.1, ?_⟩
  rcases h.2 with hn | ⟨g, cap, cur, rfl, hb, hgg, rest⟩
  · exact .inl hn
  · refine .inr ⟨g, cap, cur, rfl, hb, ?_, rest⟩
    rw [k.block g (Array.getElem?_eq_some_iff.1 hgg).1 (fun hm => hS g hm rfl)]
    exact hgg
theorem Sts.kept {w W u : World} {v : Value} {n : Nat} {F : Nat → Nat → BitVec 32} (h : Sts w W v n F) (k : Keeps W u []) : Sts w u v n F := h.keeps k (by simp)

/-- What States hands back. -/
def Table (w u : World) (e : Ending) (n : Nat) (F : Nat → Nat → BitVec 32) : Prop :=
  Keeps w u [] ∧ ∃ g c cur, e = .returned (.slice (some ⟨g, 0, none⟩) n c) ∧ w.heap.size ≤ g ∧ Blk u g 23 cur ∧ n ≤ c ∧ c ≤ maxLen ∧ cur.size = c * 16 ∧ ∀ i j, i < n → j < 16 → cur[16 * i + j]? = some (U32 (F i j))
theorem Sts.table {w W : World} {v : Value} {n : Nat} {F : Nat → Nat → BitVec 32} (h : Sts w W v n F) (hn : 0 < n) (k : Keeps w W []) : Table w W (.returned v) n F := by
  rcases h.2 with ⟨_, h0⟩ | ⟨g, cap, cur, rfl, hb, hgg, hnc, hcm, hcs, htake⟩
  · omega
  · refine ⟨k, g, cap, cur, rfl, hb, hgg, hnc, hcm, hcs, fun i j hi hj => ?_⟩
    have h1 := fl_get F i j hj n hi
    rw [← htake, List.getElem?_take, if_pos (by omega), Array.getElem?_toList] at h1
    exact h1

section
variable {ops : Array Oper} {rest : List Oper} {o : Oper} {a : Act} {w W : World} {Q : Exit → Act → World → Prop} {S : List Nat} {L : List Ent} {x y : Operand}
theorem fill16 (V : Nat → BitVec 32) : Instr.fill (fun i => some (i * 16, 16)) ((Array.range (1 * 16)).map ((Value.agg (words 16 fun _ => 0)).cells[· % (Value.agg (words 16 fun _ => 0)).cells.size]!)) [(0, .agg (words 16 V))] = some (words 16 V) := by kernel_rfl
/-- A literal of one state. -/
theorem own_lit_row (d : Nat) (V : Nat → BitVec 32) (O : Own w W S L) (_hd : o.dst = some d) (hgd : o.guard = none) (ho : o.op = .buildSlice 49 1 #[(0, x)]) (hx : a.eval x = .agg (words 16 V))
    (h : ∀ u g, Keeps W u [] → Own w u S ((g, 23, words 16 V) :: L) → wpList Try.prog ops Q rest (a.put o.dst (.slice (some ⟨g, 0, none⟩) 1 1)) u) : wpList Try.prog ops Q (o :: rest) a W := by
  obtain ⟨i, z, hi, hz, hzs, hs, hb, rfl⟩ := info23
  refine wpList_buildSlice hgd 49 23 1 _ ho (words 16 V) i _ Try.underlying49 hi hz (by rw [hs]; decide) (by rw [hs]; decide) ?_ (h _ _ ((Keeps.refl _ _).alloc _) (O.add ((Keeps.refl _ _).alloc _) (Blk.new _ _ _)))
  rw [hs]
  have e : ((#[(0, x)] : Array (Nat × Operand)).map (fun (i, x) => (i, a.eval x))).toList = [(0, .agg (words 16 V))] := by simp [hx]
  rw [e]
  exact fill16 V

theorem own_append_row (v : Value) (n : Nat) (F : Nat → Nat → BitVec 32) (g c : Nat) (s z : Operand) (O : Own w W S L) (hM : Sts w W v n F) (hA : Off L v) (hgd : o.guard = none) (ho : o.op = .call { callee := .builtin .append, args := #[s, z], argTypes := #[49, 49] })
    (hs : a.eval s = v) (hz' : a.eval z = .slice (some ⟨g, 0, none⟩) 1 c) (hc : Blk W g 23 (words 16 (F n))) (hb : n + 1 ≤ 1000000)
    (h : ∀ v' u, Own w u S L → Sts w u v' (n + 1) F → Off L v' → wpList Try.prog ops Q rest (a.put o.dst v') u) : wpList Try.prog ops Q (o :: rest) a W := by
  obtain ⟨i, q, hi, hz, hzs, hsz, hby, _⟩ := info23
  refine wpList_append_own_at W hgd s z 49 ho w.heap.size 23 i q 16 64 Try.underlying49 hi hz hsz hby hzs (by decide) v n (fl F n) hs hM ⟨g, 0, none⟩ 1 c (words 16 (F n)).toList hz' (by rw [Array.length_toList, words_size]) (fun j u hu => ?_) (words_cell 16 _)
    (by simp only [maxLen]; omega) (by omega) O.keep.size fun v' u h1 h2 _ h4 => ?_
  · rw [add_zero_, hc.cell]
    simpa using hu
  · have k := Keeps.grown h2
    have hO : Own w u S L := by
      refine ⟨O.keep.trans k fun b hb hlt' => ?_, fun q hq => (O.blk q hq).keeps k (fun hm => ?_), O.new, O.nd⟩
      · rcases hM.2 with ⟨rfl, _⟩ | ⟨g', cap, cur, rfl, hbg, _⟩
        · simp [Value.ownBlock] at hb
        · simp [Value.ownBlock] at hb
          omega
      · exact hA q hq (by simpa using (Option.mem_toList.1 hm).symm)
    refine h v' u hO h1 fun q hq => ?_
    rcases h4 with h4 | h4
    · rw [h4]; exact hA q hq
    · rw [h4]
      have := (O.blk q hq).lt
      intro e
      injection e with e
      omega

/-- A whole state stored into a part of a known block. -/
theorem setCells_blk (g : Nat) (t : TypeId) : ∀ (vs : List Value) (o : Nat) (W : World) (cs : Array Value), Blk W g t cs → Keeps W (W.setCells g o vs) [g] ∧ ∃ cs', Blk (W.setCells g o vs) g t cs' ∧ cs'.size = cs.size
  | [], _, W, cs, h => ⟨Keeps.refl _ _, cs, h, rfl⟩
  | v :: r, o, W, cs, h => by
    have k1 : Keeps W (W.setCell ⟨g, o, none⟩ v) [g] := (Keeps.refl _ _).setCell _ _ (fun _ => by simp)
    obtain ⟨k2, cs', h2, e2⟩ := setCells_blk g t r (o + 1) _ _ (h.setCell o v)
    exact ⟨k1.trans k2 (fun b hb _ => hb), cs', h2, by rw [e2]; simp⟩
theorem own_store_mid (k off : Nat) {g : Nat} {t ty : TypeId} {cs : Array Value} {cells : Array Value} (y z : Operand) (O : Own w W S L) (hgd : o.guard = none) (hdst : o.dst = none) (ho : o.op = .store ty y z) (hy : a.eval y = .pointer (some ⟨g, off, none⟩)) (hz : a.eval z = .agg cells) (hk : L[k]? = some (g, t, cs))
    (hi : (Try.prog.info? ty).map (·.size) = some cells.size) (hs : off + cells.size ≤ cs.size) (h1 : cells.all (·.oneCell') = true)
    (h : ∀ u cs', cs'.size = cs.size → Own w u S (L.set k (g, t, cs')) → wpList Try.prog ops Q rest a u) : wpList Try.prog ops Q (o :: rest) a W := by
  have b := O.get k hk
  refine wpList_store_mid hgd ty y z ho g off cells hy hz (fun j hj => ⟨?_, b.frozen _⟩) hi h1 ?_
  · rw [b.cell, Array.getElem?_eq_getElem (by omega)]; rfl
  · obtain ⟨kk, cs', b', e'⟩ := setCells_blk g t cells.toList off W cs b
    have := h _ cs' e' (O.set k hk kk b')
    rw [hdst]
    exact this
end

/-! ### States -/
def stF (H M : Nat → BitVec 32) (n : BitVec 64) (last node : Bool) : Nat → Nat → BitVec 32 := fK M (begV H n last node)

section
variable {ops : Array Oper} {rest : List Oper} {o : Oper} {a : Act} {w W : World} {Q : Exit → Act → World → Prop} {S : List Nat} {L : List Ent} {x y : Operand}
theorem own_store_row' {g : Nat} {t ty : TypeId} {cs cs' : Array Value} (k : Nat) (y z : Operand) (O : Own w W S L) (hgd : o.guard = none) (hdst : o.dst = none) (ho : o.op = .store ty y z) (hy : a.eval y = .pointer (some ⟨g, 0, none⟩)) (hz : a.eval z = .agg cs') (hk : L[k]? = some (g, t, cs))
    (hi : (Try.prog.info? ty).map (·.size) = some cs'.size) (hs : cs.size = cs'.size) (h1 : ∀ v ∈ cs'.toList, v.oneCell' = true)
    (h : ∀ u, Keeps W u [g] → Own w u S (L.set k (g, t, cs')) → wpList Try.prog ops Q rest a u) : wpList Try.prog ops Q (o :: rest) a W :=
  wpList_store_row y z hgd hdst ho hy hz (O.get k hk) hi hs h1 fun u kp b => h u kp (O.set k hk kp b)
end

set_option maxHeartbeats 1000000 in
theorem states_any (H M : Nat → BitVec 32) (n : BitVec 64) (last node : Bool) (w : World) :
    Calls Try.prog 30 #[.agg (words 8 H), .agg (words 16 M), U64 n, .bool last, .bool node] w fun e u => Table w u e 11 (stF H M n last node) := by
  have O := Own.start w []
  unfold stF
  generalize hI : fK M (begV H n last node) = FK at *
  have F0 : FK 0 = begV H n last node := by rw [← hI]; rfl
  have Fsx : ∀ k, FK (k + 1) = roundV (FK k) M (row (k : Nat)) := fun k => by rw [← hI]; rfl
  have H0 := Lib.hid F0
  have HS := Lib.hid Fsx
  clear hI F0 Fsx
  go_enter Try.func30, Try.ntmps30
  go_wp2_with (first
    | (refine own_box 5 (words 8 H) O rfl rfl rfl rfl ?_; clear O; intro W a5 O; simp only [Act.put, List.setIfInBounds_toArray, List.set_cons_zero, List.set_cons_succ])
    | (refine own_box 6 (words 16 M) O rfl rfl rfl rfl ?_; clear O; intro W a6 O; simp only [Act.put, List.setIfInBounds_toArray, List.set_cons_zero, List.set_cons_succ])
    | (refine own_load 14 1 O rfl rfl rfl rfl rfl Try.underlying33 rfl (by kernel_rfl) ?_; simp only [Act.put, List.setIfInBounds_toArray, List.set_cons_zero, List.set_cons_succ])
    | (go_at_call 37; refine (begin_any _ _ _ _ _).mono ?_; rintro e W ⟨rfl, K⟩; replace O := O.keeps K; clear K)
    | (refine own_alloc 11 (words 16 fun _ => 0) O rfl rfl rfl (fun _ => by kernel_rfl) ?_; clear O; intro W a11 O; simp only [Act.put, List.setIfInBounds_toArray, List.set_cons_zero, List.set_cons_succ])
    | (refine own_store_row 0 (.tmp 11) (.tmp 18) O rfl rfl rfl rfl rfl rfl (by kernel_rfl) (by simp only [words_size]) (words_cell _ _) ?_; clear O; intro W O; simp only [List.set_cons_zero] at O; rw [← H0.out] at O)
    | (refine own_load 19 0 O rfl rfl rfl rfl rfl Try.underlying23 rfl (by kernel_rfl) ?_; simp only [Act.put, List.setIfInBounds_toArray, List.set_cons_zero, List.set_cons_succ])
    | (refine own_lit_row 20 (FK 0) O rfl rfl rfl (by rw [H0.out]; rfl) ?_; clear O; intro W g20 K O; clear K; simp only [Act.put, List.setIfInBounds_toArray, List.set_cons_zero, List.set_cons_succ]))
  have M0 : Sts w W (.slice (some ⟨g20, 0, none⟩) 1 1) 1 FK := by
    have hb := O.get 0 rfl
    refine ⟨by rw [fl_length], .inr ⟨g20, 1, _, rfl, ?_, hb, by omega, by simp [maxLen], by rw [words_size], ?_⟩⟩
    · exact Nat.le_of_not_lt fun h => absurd (O.new (g20, 23, words 16 (FK 0)) (by simp) h) (by simp)
    · show _ = [] ++ (words 16 (FK 0)).toList
      rw [List.nil_append, List.take_of_length_le (by rw [Array.length_toList, words_size]; omega)]
  have A0 : Off [(a11, 23, words 16 (FK 0)), (a6, 23, words 16 M), (a5, 33, words 8 H)] (.slice (some ⟨g20, 0, none⟩) 1 1) := fun q hq e => by
    obtain ⟨i, hi⟩ := List.getElem?_of_mem hq
    have := O.apart (i := i + 1) (j := 0) (e := q) (by simpa using hi) rfl (by omega)
    injection e with e
    exact this e
  replace O := O.drop_ 1
  simp only [List.drop] at O
  go_loopw [21, 12] (fun i v wr => ∃ k : Nat, k ≤ 10 ∧ i = .int .i64 k ∧ Own w wr [] [(a11, 23, words 16 (FK k)), (a6, 23, words 16 M), (a5, 33, words 8 H)] ∧ Sts w wr v (k + 1) FK ∧ Off [(a11, 23, words 16 (FK k)), (a6, 23, words 16 M), (a5, 33, words 8 H)] v) (fun i _ _ => 10 - (intOf i).toNat)
  case atStart => exact ⟨0, by omega, rfl, O, M0, A0⟩
  case round =>
    obtain ⟨k, hk, rfl, O, hM, hA⟩ := hrel
    by_cases hlt : k < 10
    · have g1 : ((k : Int)) < 10 := by omega
      go_wp2_with (first
        | (go_at_call 55; refine (round_in (FK k) M a11 a6 k _ (O.get 0 rfl) (O.get 1 rfl) (O.apart (i := 1) (j := 0) rfl rfl (by decide))).mono ?_; rintro e W ⟨rfl, K, B⟩; rw [← HS.out] at B; replace O := O.set 0 rfl K B; replace hM := hM.keeps K (by intro b hb; rw [List.mem_singleton.1 hb]; exact hA (a11, 23, words 16 (FK k)) (by simp)); clear K B; simp only [List.set_cons_zero] at O)
        | (refine own_load 27 0 O rfl rfl rfl rfl rfl Try.underlying23 rfl (by kernel_rfl) ?_; simp only [Act.put, List.setIfInBounds_toArray, List.set_cons_zero, List.set_cons_succ])
        | (refine own_lit_row 28 (FK (k + 1)) O rfl rfl rfl rfl ?_; clear O; intro W gl K O; replace hM := hM.kept K; clear K; simp only [Act.put, List.setIfInBounds_toArray, List.set_cons_zero, List.set_cons_succ])
        | (at_builtin; refine own_append_row _ (k + 1) FK gl 1 (.tmp 26) (.tmp 28) (O.drop_ 1) hM (hA.same rfl) rfl rfl rfl rfl (O.get 0 rfl) (by omega) ?_; clear O hM hA; intro v1 W O hM hA; simp only [Act.put, List.setIfInBounds_toArray, List.set_cons_zero, List.set_cons_succ]; simp only [List.drop] at O hA))
      go_roundw
      case rel => exact ⟨k + 1, by omega, by go_num, O, hM, hA⟩
      case measure => (simp [intOf] <;> omega)
    · obtain rfl : k = 10 := by omega
      go_wp2
      go_ret
      exact hM.table (by omega) O.keep

set_option maxHeartbeats 1000000 in
theorem refstates_any (H M : Nat → BitVec 32) (n : BitVec 64) (last node : Bool) (w : World) :
    Calls Try.prog 31 #[.agg (words 8 H), .agg (words 16 M), U64 n, .bool last, .bool node] w fun e u => Table w u e 11 (stF H M n last node) := by
  have O := Own.start w []
  unfold stF
  generalize hI : fK M (begV H n last node) = FK at *
  have F0 : FK 0 = begV H n last node := by rw [← hI]; rfl
  have Fsx : ∀ k, k ≤ 9 → rSt (FK k) M (k : Nat) = FK (k + 1) := fun k hk => by
    rw [← hI]
    unfold rSt
    rw [rOk_good (by omega)]
    rfl
  have H0 := Lib.hid F0
  have HS := Lib.hid Fsx
  clear hI F0 Fsx
  go_enter Try.func31, Try.ntmps31
  go_wp2_with (first
    | (refine own_box 5 (words 8 H) O rfl rfl rfl rfl ?_; clear O; intro W a5 O; simp only [Act.put, List.setIfInBounds_toArray, List.set_cons_zero, List.set_cons_succ])
    | (refine own_box 6 (words 16 M) O rfl rfl rfl rfl ?_; clear O; intro W a6 O; simp only [Act.put, List.setIfInBounds_toArray, List.set_cons_zero, List.set_cons_succ])
    | (refine own_load 14 1 O rfl rfl rfl rfl rfl Try.underlying33 rfl (by kernel_rfl) ?_; simp only [Act.put, List.setIfInBounds_toArray, List.set_cons_zero, List.set_cons_succ])
    | (go_at_call 38; refine (refbegin_any _ _ _ _ _).mono ?_; rintro e W ⟨rfl, K⟩; replace O := O.keeps K; clear K)
    | (refine own_alloc 11 (words 16 fun _ => 0) O rfl rfl rfl (fun _ => by kernel_rfl) ?_; clear O; intro W a11 O; simp only [Act.put, List.setIfInBounds_toArray, List.set_cons_zero, List.set_cons_succ])
    | (refine own_store_row 0 (.tmp 11) (.tmp 18) O rfl rfl rfl rfl rfl rfl (by kernel_rfl) (by simp only [words_size]) (words_cell _ _) ?_; clear O; intro W O; simp only [List.set_cons_zero] at O; rw [← H0.out] at O)
    | (refine own_load 19 0 O rfl rfl rfl rfl rfl Try.underlying23 rfl (by kernel_rfl) ?_; simp only [Act.put, List.setIfInBounds_toArray, List.set_cons_zero, List.set_cons_succ])
    | (refine own_lit_row 20 (FK 0) O rfl rfl rfl (by rw [H0.out]; rfl) ?_; clear O; intro W g20 K O; clear K; simp only [Act.put, List.setIfInBounds_toArray, List.set_cons_zero, List.set_cons_succ]))
  have M0 : Sts w W (.slice (some ⟨g20, 0, none⟩) 1 1) 1 FK := by
    have hb := O.get 0 rfl
    refine ⟨by rw [fl_length], .inr ⟨g20, 1, _, rfl, ?_, hb, by omega, by simp [maxLen], by rw [words_size], ?_⟩⟩
    · exact Nat.le_of_not_lt fun h => absurd (O.new (g20, 23, words 16 (FK 0)) (by simp) h) (by simp)
    · show _ = [] ++ (words 16 (FK 0)).toList
      rw [List.nil_append, List.take_of_length_le (by rw [Array.length_toList, words_size]; omega)]
  have A0 : Off [(a11, 23, words 16 (FK 0)), (a6, 23, words 16 M), (a5, 33, words 8 H)] (.slice (some ⟨g20, 0, none⟩) 1 1) := fun q hq e => by
    obtain ⟨i, hi⟩ := List.getElem?_of_mem hq
    have := O.apart (i := i + 1) (j := 0) (e := q) (by simpa using hi) rfl (by omega)
    injection e with e
    exact this e
  replace O := O.drop_ 1
  simp only [List.drop] at O
  go_loopw [13, 12] (fun i v wr => ∃ k : Nat, k ≤ 10 ∧ i = .int .i64 k ∧ Own w wr [] [(a11, 23, words 16 (FK k)), (a6, 23, words 16 M), (a5, 33, words 8 H)] ∧ Sts w wr v (k + 1) FK ∧ Off [(a11, 23, words 16 (FK k)), (a6, 23, words 16 M), (a5, 33, words 8 H)] v) (fun i _ _ => 10 - (intOf i).toNat)
  case atStart => exact ⟨0, by omega, rfl, O, M0, A0⟩
  case round =>
    obtain ⟨k, hk, rfl, O, hM, hA⟩ := hrel
    by_cases hlt : k < 10
    · have g1 : ((k : Int)) < 10 := by omega
      go_wp2_with (first
        | (refine own_load 26 0 O rfl rfl rfl rfl rfl Try.underlying23 rfl (by kernel_rfl) ?_; simp only [Act.put, List.setIfInBounds_toArray, List.set_cons_zero, List.set_cons_succ])
        | (refine own_load 27 1 O rfl rfl rfl rfl rfl Try.underlying23 rfl (by kernel_rfl) ?_; simp only [Act.put, List.setIfInBounds_toArray, List.set_cons_zero, List.set_cons_succ])
        | (go_at_call 34; refine (refround_any _ _ _ _).mono ?_; rintro e W ⟨rfl, K⟩; replace O := O.keeps K; replace hM := hM.kept K; clear K)
        | (refine own_store_row' 0 (.tmp 11) (.tmp 30) O rfl rfl rfl rfl rfl rfl (by kernel_rfl) (by simp only [words_size]) (words_cell _ _) ?_; clear O; intro W K O; simp only [List.set_cons_zero] at O; replace hM := hM.keeps K (by intro b hb; rw [List.mem_singleton.1 hb]; exact hA (a11, 23, words 16 (FK k)) (by simp)); clear K; rw [HS.out k (by omega)] at O)
        | (refine own_load 33 0 O rfl rfl rfl rfl rfl Try.underlying23 rfl (by kernel_rfl) ?_; simp only [Act.put, List.setIfInBounds_toArray, List.set_cons_zero, List.set_cons_succ])
        | (refine own_lit_row 34 (FK (k + 1)) O rfl rfl rfl rfl ?_; clear O; intro W gl K O; replace hM := hM.kept K; clear K; simp only [Act.put, List.setIfInBounds_toArray, List.set_cons_zero, List.set_cons_succ])
        | (at_builtin; refine own_append_row _ (k + 1) FK gl 1 (.tmp 32) (.tmp 34) (O.drop_ 1) hM (hA.same rfl) rfl rfl rfl rfl (O.get 0 rfl) (by omega) ?_; clear O hM hA; intro v1 W O hM hA; simp only [Act.put, List.setIfInBounds_toArray, List.set_cons_zero, List.set_cons_succ]; simp only [List.drop] at O hA))
      go_roundw
      case rel => exact ⟨k + 1, by omega, by go_num, O, hM, hA⟩
      case measure => (simp [intOf] <;> omega)
    · obtain rfl : k = 10 := by omega
      go_wp2
      go_ret
      exact hM.table (by omega) O.keep
end Go.Proofs.Ytanibkocihjgjaa

/-
  Bytes, same, wide, kept, spoil.
-/
import Derived.Test.YtanibkocihjgjaaB2
import Derived.Test.YtanibkocihjgjaaHeld
namespace Go.Proofs.Ytanibkocihjgjaa
open Go.ChangeShapes Go.WideShapes Go.RowKit

theorem bytes5 : Try.prog.bytesOf 5 = 1 := by kernel_rfl
theorem u8_of (z : Int) (h : (Lit.int .u8 z).wf = true) : Value.int .u8 z = U8 (BitVec.ofNat 8 z.toNat) := by
  have h' : 0 ≤ z ∧ z ≤ 255 := by simp [Lit.wf] at h; exact h
  unfold U8
  rw [BitVec.toNat_ofNat]
  congr 1
  omega
theorem open_bytes {H : Type} {enc : TypeId × Value → H} {w : World} {base : Nat} {v : Value} {d : DataW H} {p : List MemPlace} (hval : Value.okWide Try.prog w .any base 32 v) (h : DataW.Trod enc Try.prog w 0 (fun _ => true) true 32 v d p) (hlt : ∀ q ∈ p, q.block < w.heap.size)
    (hz : ∀ e s, d = .slice e s → (e.length + s.length) * Try.prog.bytesOf 5 ≤ reachBytes) :
    ∃ (A : Option Addr) (n c : Nat) (f : Nat → BitVec 8), v = .slice A n c ∧ Byt w A n f ∧ n ≤ 140737488351232 ∧ (A = none → n = 0 ∧ c = 0) := by
  obtain ⟨a0, len0, cap0, rfl⟩ := okWide_slice Try.underlying32 hval
  obtain ⟨fuel, hf⟩ := h
  rcases open_ints Try.underlying32 Try.underlying5 (by kernel_rfl) hf with ⟨hcs, hx⟩ | ⟨a, len, cap, zs, hcs, _, hle, hmax, hzl, hx, hcell, hwf⟩
  · simp [Value.cells] at hcs
    obtain ⟨rfl, rfl, rfl⟩ := hcs
    exact ⟨none, 0, 0, fun _ => 0, rfl, fun hn => by omega, by omega, fun _ => ⟨rfl, rfl⟩⟩
  · simp [Value.cells] at hcs
    obtain ⟨rfl, rfl, rfl⟩ := hcs
    simp only [Prod.mk.injEq] at hx
    obtain ⟨rfl, rfl⟩ := hx
    have hzl' : zs.length = cap0 := by simpa using hzl
    have hs := hz _ _ rfl
    rw [bytes5] at hs
    have hr : reachBytes ≤ 140737488351232 := by decide
    have hs2 : cap0 ≤ reachBytes := by
      have e : (lits .u8 (zs.take len0) : List (DataW H)).length + (lits .u8 (zs.drop len0) : List (DataW H)).length = zs.length := by simp [lits]; omega
      rw [e] at hs
      omega
    refine ⟨some a, len0, cap0, fun i => BitVec.ofNat 8 (zs.getD i 0).toNat, rfl, fun hn => ⟨a, rfl, ?_, fun j hj => ?_⟩, by omega, fun h => by cases h⟩
    · exact World.block_lt_of_cell? w (a.add 0) (hcell 0 (by omega)) |> fun h => by rwa [add_block] at h
    · rw [hcell j (by omega)]
      have hj' : j < zs.length := by omega
      refine congrArg some (u8_of _ (hwf _ ?_))
      simp [List.getElem?_eq_getElem hj']

section
variable {ops : Array Oper} {rest : List Oper} {o : Oper} {a : Act} {w W : World} {Q : Exit → Act → World → Prop} {S : List Nat} {L : List Ent}
theorem own_append_byt (v : Value) (n m c : Nat) (f g : Nat → BitVec 8) (A : Option Addr) (s z : Operand) (O : Own w W S L) (hM : Mine w W v n f) (hgd : o.guard = none) (ho : o.op = .call { callee := .builtin .append, args := #[s, z], argTypes := #[32, 32] })
    (hs : a.eval s = v) (hz' : a.eval z = .slice A m c) (hA : A = none → m = 0 ∧ c = 0) (hL : ∀ q ∈ L, q.2.1 ≠ 5) (hc : Byt W A m g) (hb : n + m ≤ 140737488355328)
    (h : ∀ v' u, Own w u S L → Mine w u v' (n + m) (cat n f g) → wpList Try.prog ops Q rest (a.put o.dst v') u) : wpList Try.prog ops Q (o :: rest) a W := by
  obtain ⟨i, hi, hz, hsz, hby⟩ := info5
  rcases A with _ | ad
  · obtain ⟨rfl, rfl⟩ := hA rfl
    exact wpList_append_own_none hgd s z 32 ho w.heap.size 5 i 1 Try.underlying32 hi v n (bl n f) hs hM hz' (h v W O (hM.congr fun i hi => by unfold cat; rw [if_pos hi]))
  · refine own_append v n m c f g ad s z O hM hgd ho hs hz' hL (fun j hj => ?_) hb h
    obtain ⟨ad', e, _, hh⟩ := hc (by omega)
    injection e with e
    subst e
    exact hh j hj
end

/-- What a call that makes a slice of bytes hands back. -/
def FreshB (w u : World) (e : Ending) (n : Nat) (f : Nat → BitVec 8) : Prop :=
  Keeps w u [] ∧ ∃ g c cur, e = .returned (.slice (some ⟨g, 0, none⟩) n c) ∧ w.heap.size ≤ g ∧ Blk u g 5 cur ∧ n ≤ c ∧ c ≤ maxLen ∧ cur.size = c ∧ ∀ j, j < n → cur[j]? = some (U8 (f j))
theorem Mine.fresh {w W : World} {v : Value} {n : Nat} {f : Nat → BitVec 8} (h : Mine w W v n f) (hn : 0 < n) (k : Keeps w W []) : FreshB w W (.returned v) n f := by
  rcases h.2 with ⟨_, h0⟩ | ⟨g, cap, cur, rfl, hb, hgg, hnc, hcm, hcs, htake⟩
  · omega
  · refine ⟨k, g, cap, cur, rfl, hb, hgg, hnc, hcm, by omega, fun j hj => ?_⟩
    have h1 : (bl n f)[j]? = some (U8 (f j)) := by rw [bl_get, if_pos hj]
    rw [← htake, List.getElem?_take, if_pos (by omega), Array.getElem?_toList] at h1
    exact h1
theorem Byt.of_blk {W : World} {g n : Nat} {cur : Array Value} {f : Nat → BitVec 8} (b : Blk W g 5 cur) (h : ∀ j, j < n → cur[j]? = some (U8 (f j))) : Byt W (some ⟨g, 0, none⟩) n f :=
  fun _ => ⟨_, rfl, b.lt, fun j hj => by rw [add_zero_, b.cell, h j hj]⟩

/-! ### Bytes of a chain -/
def by32 (x : BitVec 32) (i : Nat) : BitVec 8 := (x >>> (8 * i)).setWidth 8
theorem by32_0 (x : BitVec 32) : by32 x 0 = x.setWidth 8 := by unfold by32; rw [Nat.mul_zero, BitVec.ushiftRight_zero]
def bV (V : Nat → BitVec 32) : Nat → BitVec 8 := fun i => by32 (V (i / 4)) (i % 4)
theorem bV_cat (V : Nat → BitVec 32) (k i : Nat) (hi : i < 4 * k + 4) : cat (4 * k) (bV V) (by32 (V k)) i = bV V i := by
  unfold cat bV
  by_cases h : i < 4 * k
  · rw [if_pos h]
  · rw [if_neg h, show i / 4 = k from by omega, show i % 4 = i - 4 * k from by omega]
section
variable {ops : Array Oper} {rest : List Oper} {o : Oper} {a : Act} {w W : World} {Q : Exit → Act → World → Prop} {S : List Nat} {L : List Ent} {x0 x1 x2 x3 : Operand}
theorem own_lit4b (d : Nat) (f : Nat → BitVec 8) (O : Own w W S L) (_hd : o.dst = some d) (hgd : o.guard = none) (ho : o.op = .buildSlice 32 4 #[(0, x0), (1, x1), (2, x2), (3, x3)])
    (h0 : a.eval x0 = U8 (f 0)) (h1 : a.eval x1 = U8 (f 1)) (h2 : a.eval x2 = U8 (f 2)) (h3 : a.eval x3 = U8 (f 3))
    (h : ∀ u g, Keeps W u [] → Own w u S ((g, 5, bytesA 4 f) :: L) → wpList Try.prog ops Q rest (a.put o.dst (.slice (some ⟨g, 0, none⟩) 4 4)) u) : wpList Try.prog ops Q (o :: rest) a W := by
  obtain ⟨i, hi, hz, hs, hb⟩ := info5
  refine wpList_buildSlice hgd 32 5 4 _ ho (bytesA 4 f) i (.int .u8 0) Try.underlying32 hi hz (by rw [hs]; decide) (by rw [hs]; decide) ?_ (h _ _ ((Keeps.refl _ _).alloc _) (O.add ((Keeps.refl _ _).alloc _) (Blk.new _ _ _)))
  rw [hs]
  have e : ((#[(0, x0), (1, x1), (2, x2), (3, x3)] : Array (Nat × Operand)).map (fun (i, x) => (i, a.eval x))).toList = [(0, U8 (f 0)), (1, U8 (f 1)), (2, U8 (f 2)), (3, U8 (f 3))] := by simp [h0, h1, h2, h3]
  rw [e]
  have r : Array.range 4 = #[0, 1, 2, 3] := by decide
  simp [Instr.fill, bytesA, r, cells_U8]
end
theorem index_words (V : Nat → BitVec 32) (k : Nat) (hk : k < 8) : ∀ w, (Instr.index 33 (.agg (words 8 V)) (.int .i64 (k : Int))).run Try.prog w = .ok (U32 (V k)) w := by
  have i0 : ∀ w, (Instr.index 33 (.agg (words 8 V)) (.int .i64 ((0 : Nat) : Int))).run Try.prog w = .ok (U32 (V 0)) w := fun _ => by kernel_rfl
  have i1 : ∀ w, (Instr.index 33 (.agg (words 8 V)) (.int .i64 ((1 : Nat) : Int))).run Try.prog w = .ok (U32 (V 1)) w := fun _ => by kernel_rfl
  have i2 : ∀ w, (Instr.index 33 (.agg (words 8 V)) (.int .i64 ((2 : Nat) : Int))).run Try.prog w = .ok (U32 (V 2)) w := fun _ => by kernel_rfl
  have i3 : ∀ w, (Instr.index 33 (.agg (words 8 V)) (.int .i64 ((3 : Nat) : Int))).run Try.prog w = .ok (U32 (V 3)) w := fun _ => by kernel_rfl
  have i4 : ∀ w, (Instr.index 33 (.agg (words 8 V)) (.int .i64 ((4 : Nat) : Int))).run Try.prog w = .ok (U32 (V 4)) w := fun _ => by kernel_rfl
  have i5 : ∀ w, (Instr.index 33 (.agg (words 8 V)) (.int .i64 ((5 : Nat) : Int))).run Try.prog w = .ok (U32 (V 5)) w := fun _ => by kernel_rfl
  have i6 : ∀ w, (Instr.index 33 (.agg (words 8 V)) (.int .i64 ((6 : Nat) : Int))).run Try.prog w = .ok (U32 (V 6)) w := fun _ => by kernel_rfl
  have i7 : ∀ w, (Instr.index 33 (.agg (words 8 V)) (.int .i64 ((7 : Nat) : Int))).run Try.prog w = .ok (U32 (V 7)) w := fun _ => by kernel_rfl
  match k, hk with
  | 0, _ => exact i0
  | 1, _ => exact i1
  | 2, _ => exact i2
  | 3, _ => exact i3
  | 4, _ => exact i4
  | 5, _ => exact i5
  | 6, _ => exact i6
  | 7, _ => exact i7

set_option maxHeartbeats 1000000 in
theorem bytes_any (V : Nat → BitVec 32) (w : World) : Calls Try.prog 25 #[.agg (words 8 V)] w fun e u => FreshB w u e 32 (bV V) := by
  have O := Own.start w []
  have HB := Lib.hid (bV_cat V)
  have M0 : ∀ {W : World} {g c : Nat}, Blk W g 5 (bytesA c fun _ => 0) → w.heap.size ≤ g → c ≤ maxLen → Mine w W (.slice (some ⟨g, 0, none⟩) 0 c) 0 (bV V) := fun h hg hc => (Mine.row h hg (Nat.zero_le _) hc).congr (fun i hi => by omega)
  generalize bV V = F at *
  go_enter Try.func25, Try.ntmps25
  go_wp2_with (first
    | (refine own_box 1 (words 8 V) O rfl rfl rfl rfl ?_; clear O; intro W a1 O; simp only [Act.put, List.setIfInBounds_toArray, List.set_cons_zero, List.set_cons_succ])
    | (refine own_make 6 0 32 O rfl rfl rfl rfl rfl (by omega) (by omega) ?_; clear O; intro W a6 O; simp only [Act.put, List.setIfInBounds_toArray, List.set_cons_zero, List.set_cons_succ])
    | (refine own_load 7 1 O rfl rfl rfl rfl rfl Try.underlying33 rfl (by kernel_rfl) ?_; simp only [Act.put, List.setIfInBounds_toArray, List.set_cons_zero, List.set_cons_succ]))
  have M := M0 (O.get 0 rfl) (Nat.le_of_not_lt fun h => by have := O.new (a6, 5, bytesA 32 fun _ => 0) (by simp) h; simp at this) (by simp [maxLen])
  replace O := O.drop_ 1
  simp only [List.drop] at O
  clear M0
  go_loopw [8, 3, 5] (fun i v x wr => ∃ k : Nat, k ≤ 8 ∧ i = .int .i64 k ∧ Own w wr [] [(a1, 33, words 8 V)] ∧ Mine w wr v (4 * k) F) (fun i _ _ _ => 8 - (intOf i).toNat)
  case atStart => exact ⟨0, by omega, rfl, O, M⟩
  case round =>
    obtain ⟨k, hk, rfl, O, M⟩ := hrel
    by_cases hlt : k < 8
    · have g1 : ((k : Int)) < 8 := by omega
      have ix := index_words V k hlt
      go_wp2_with (first
        | (refine own_lit4b 23 (by32 (V k)) O rfl rfl rfl (by rw [by32_0]; rfl) rfl rfl rfl ?_; clear O; intro W gl K O; replace M := M.keeps K; clear K; simp only [Act.put, List.setIfInBounds_toArray, List.set_cons_zero, List.set_cons_succ])
        | (at_builtin; refine own_append _ (4 * k) 4 4 F (by32 (V k)) ⟨gl, 0, none⟩ (.tmp 11) (.tmp 23) (O.drop_ 1) M rfl rfl rfl rfl (by simp) (fun j hj => by rw [add_zero_, (O.get 0 rfl).cell, bytesA_get _ _ _ hj]) (by omega) ?_; clear O M; intro v1 W O M; simp only [Act.put, List.setIfInBounds_toArray, List.set_cons_zero, List.set_cons_succ]; simp only [List.drop] at O))
      clear ix
      go_roundw
      case rel => exact ⟨k + 1, by omega, by go_num, O, M.congr fun i hi => HB.out k i (by omega)⟩
      case measure => (simp [intOf] <;> omega)
    · obtain rfl : k = 8 := by omega
      go_wp2
      go_ret
      exact M.fresh (by omega) O.keep

set_option maxHeartbeats 1000000 in
theorem refbytes_any (V : Nat → BitVec 32) (w : World) : Calls Try.prog 27 #[.agg (words 8 V)] w fun e u => FreshB w u e 32 (bV V) := by
  have O := Own.start w []
  have HB := Lib.hid (bV_cat V)
  have M := Mine.nil w w (bV V)
  generalize bV V = F at *
  go_enter Try.func27, Try.ntmps27
  go_wp2_with (first
    | (refine own_box 1 (words 8 V) O rfl rfl rfl rfl ?_; clear O; intro W a1 O; simp only [Act.put, List.setIfInBounds_toArray, List.set_cons_zero, List.set_cons_succ]))
  replace M := M.keeps (O.keep)
  go_loopw [4, 3] (fun i v wr => ∃ k : Nat, k ≤ 8 ∧ i = .int .i64 k ∧ Own w wr [] [(a1, 33, words 8 V)] ∧ Mine w wr v (4 * k) F) (fun i _ _ => 8 - (intOf i).toNat)
  case atStart => exact ⟨0, by omega, rfl, O, M⟩
  case round =>
    obtain ⟨k, hk, rfl, O, M⟩ := hrel
    by_cases hlt : k < 8
    · have g1 : ((k : Int)) < 8 := by omega
      go_wp2
      have QC := Lib.hid (show ∀ u : World, Own w u [] [(a1, 33, words 8 V)] → u.cell? ⟨a1, k, none⟩ = some (U32 (V k)) from fun u h => ((Own.get h 0 rfl).cell k).trans (words_get 8 V k hlt))
      replace M := M.keeps ((Keeps.refl _ []).drew)
      refine wp_held (S := fun u => Own w u [] [(a1, 33, words 8 V)]) 23 #[false, false, false, false, false, false, false, false, false, false, false, false, false, false, false, false, false, false, false, false, false, false, false] (by kernel_rfl) rfl rfl ?_
      replace O := O.drew
      refine seg_take (fuel := 3) (L' := #[true, true, true, true, true, true, true, true, true, true, true, true, true, true, true, true, true, true, true, true, false, false, false]) (by kernel_rfl) (fun _ _ _ _ _ _ h => h) (by first | exact O | exact O.drop_ 1) [0, 1, 2, 3, 4, 5, 6, 7, 8, 9, 10, 11, 12, 13, 14, 15, 16, 17, 18, 19] [_, _, _, _, _, _, _, _, _, _, _, _, _, _, _, _, _, _, _, _] _ _ rfl (by kernel_rfl) ?_
      simp only [List.getElem_toArray, List.getElem_cons_zero, List.getElem_cons_succ]
      repeat (first
        | (refine take_pure (v := ?_) (by rfl) ?_ ?_; rotate_left; (· (intro w hSw; have q := QC.out _ hSw; clear hSw; go_simp; try with_reducible rfl)); simp only [Act.put, List.setIfInBounds_toArray, List.set_cons_zero, List.set_cons_succ]))
      refine take_done ?_
      refine seg_sole 20 #[true, true, true, true, true, true, true, true, true, true, true, true, true, true, true, true, true, true, true, true, true, false, false] rfl (by kernel_rfl) ?_
      try simp only [List.getElem_toArray, List.getElem_cons_zero, List.getElem_cons_succ]
      go_wp2_with (refine own_lit4b 29 (by32 (V k)) O rfl rfl rfl (by rw [by32_0]; rfl) rfl rfl rfl ?_; clear O; intro W gl K O; replace M := M.keeps K; clear K; simp only [Act.put, List.setIfInBounds_toArray, List.set_cons_zero, List.set_cons_succ])
      (first | refine back_intro2 (by first | exact O | exact O.drop_ 1) ?_ | refine back_intro (by first | exact O | exact O.drop_ 1) ?_)
      refine seg_sole 21 #[true, true, true, true, true, true, true, true, true, true, true, true, true, true, true, true, true, true, true, true, true, true, false] rfl (by kernel_rfl) ?_
      try simp only [List.getElem_toArray, List.getElem_cons_zero, List.getElem_cons_succ]
      go_wp2_with (at_builtin; refine own_append _ (4 * k) 4 4 F (by32 (V k)) ⟨gl, 0, none⟩ (.tmp 9) (.tmp 29) (O.drop_ 1) M rfl rfl rfl rfl (by simp) (fun j hj => by rw [add_zero_, (O.get 0 rfl).cell, bytesA_get _ _ _ hj]) (by omega) ?_; clear O M; intro v1 W O M; simp only [Act.put, List.setIfInBounds_toArray, List.set_cons_zero, List.set_cons_succ]; simp only [List.drop] at O)
      (first | refine back_intro2 (by first | exact O | exact O.drop_ 1) ?_ | refine back_intro (by first | exact O | exact O.drop_ 1) ?_)
      refine seg_take (fuel := 0) (L' := #[true, true, true, true, true, true, true, true, true, true, true, true, true, true, true, true, true, true, true, true, true, true, true]) (by kernel_rfl) (fun _ _ _ _ _ _ h => h) (by first | exact O | exact O.drop_ 1) [22] [_] _ _ rfl (by kernel_rfl) ?_
      simp only [List.getElem_toArray, List.getElem_cons_zero, List.getElem_cons_succ]
      repeat (first
        | (refine take_pure (v := ?_) (by rfl) ?_ ?_; rotate_left; (· (intro w hSw; have q := QC.out _ hSw; clear hSw; go_simp; try with_reducible rfl)); simp only [Act.put, List.setIfInBounds_toArray, List.set_cons_zero, List.set_cons_succ]))
      refine take_done ?_
      refine seg_done (by kernel_rfl) ?_
      clear QC
      go_wp2
      go_roundw
      case rel => exact ⟨k + 1, by omega, by go_num, O, M.congr fun i hi => HB.out k i (by omega)⟩
      case measure => (simp [intOf] <;> omega)
    · obtain rfl : k = 8 := by omega
      go_wp2
      go_ret
      exact M.fresh (by omega) O.keep

theorem same_true (A A' : Option Addr) (n c c' : Nat) (f : Nat → BitVec 8) (w : World) (hb : Byt w A n f) (hb' : Byt w A' n f) (hn : n ≤ maxLen) :
    Calls Try.prog 28 #[.slice A n c, .slice A' n c'] w fun e w' => e = .returned (.bool true) ∧ Keeps w w' [] := by
  have hn' : n ≤ 9223372036854775807 := hn
  rcases Nat.eq_zero_or_pos n with rfl | hp
  · go_enter Try.func28, Try.ntmps28
    go_wp2
    go_loopw [5] (fun i wr => i = .int .i64 0 ∧ w = wr) (fun i _ => 0)
    case atStart => exact ⟨rfl, rfl⟩
    case round =>
      obtain ⟨rfl, rfl⟩ := hrel
      go_wp2
      go_ret
      exact ⟨rfl, Keeps.refl _ _⟩
  · obtain ⟨ad, rfl, hB, hc⟩ := hb hp
    obtain ⟨ad', rfl, hB', hc'⟩ := hb' hp
    have hc0 := Lib.hid hc
    have hc1 := Lib.hid hc'
    clear hc hc' hb hb'
    go_enter Try.func28, Try.ntmps28
    go_wp2
    go_loopw [5] (fun i wr => ∃ k : Nat, k ≤ n ∧ i = .int .i64 k ∧ Keeps w wr []) (fun i _ => n - (intOf i).toNat)
    case atStart => exact ⟨0, by omega, rfl, Keeps.refl _ _⟩
    case round =>
      obtain ⟨k, hk, rfl, K⟩ := hrel
      by_cases hlt : k < n
      · have g1 : ((k : Int)) < n := by omega
        have g0 : (0 : Int) ≤ k := by omega
        have c1 : wr.cell? (ad.add k) = some (U8 (f k)) := (K.cellAt (by rw [add_block]; exact hB) (by simp)).trans (hc0.out k hlt)
        have c2 : wr.cell? (ad'.add k) = some (U8 (f k)) := (K.cellAt (by rw [add_block]; exact hB') (by simp)).trans (hc1.out k hlt)
        have e1 : (f k != f k) = false := by simp
        go_wp2
        go_quiet (fail)
        generalize hW : World.drewN wr _ = W
        have K2 : Keeps w W [] := by rw [← hW]; exact K.drewN _
        clear hW c1 c2 e1
        go_wp2
        go_roundw
        case rel => exact ⟨k + 1, by omega, by go_num, K2⟩
        case measure => (simp [intOf] <;> omega)
      · obtain rfl : k = n := by omega
        go_wp2
        go_ret
        exact ⟨rfl, K⟩


/-! ### wide: with room behind that is marked -/
def mark (i : Nat) : BitVec 8 := BitVec.ofNat 8 (200 + i % 7)
def wideF (n : Nat) (f : Nat → BitVec 8) : Nat → BitVec 8 := cat n f mark
theorem wide_cat (n : Nat) (f : Nat → BitVec 8) (k i : Nat) (hi : i < n + k + 1) : cat (n + k) (wideF n f) (fun _ => mark k) i = wideF n f i := by
  unfold wideF cat
  by_cases h : i < n + k
  · rw [if_pos h]
  · rw [if_neg h, if_neg (by omega), show i - n = k from by omega]
theorem u8_lit (n : Nat) (h : n ≤ 255) : Value.int .u8 (n : Int) = U8 (BitVec.ofNat 8 n) := by
  unfold U8
  rw [BitVec.toNat_ofNat]
  congr 1
  omega

set_option maxHeartbeats 1000000 in
theorem wide_any (A : Option Addr) (n c : Nat) (f : Nat → BitVec 8) (w : World) (hb : Byt w A n f) (hn : n ≤ 140737488351232) (hA : A = none → n = 0 ∧ c = 0) :
    Calls Try.prog 18 #[.slice A n c] w fun e u => FreshB w u e (n + 70) (wideF n f) := by
  have O := Own.start w []
  have M := Mine.nil w w f
  have HB := Lib.hid hb
  have HN := Lib.hid hn
  have HA := Lib.hid hA
  have HW := Lib.hid (wide_cat n f)
  have HF := Lib.hid (show ∀ i, i < n → f i = wideF n f i from fun i hi => by unfold wideF cat; rw [if_pos hi])
  clear hb hn hA
  go_enter Try.func18, Try.ntmps18
  go_wp2_with (at_builtin; refine own_append_byt _ 0 n c f f A (.tmp 5) (.tmp 6) O M rfl rfl rfl rfl HA.out (by simp) (HB.out.kept O.keep) (by have := HN.out; omega) ?_; clear O M; intro v7 W O M; simp only [Act.put, List.setIfInBounds_toArray, List.set_cons_zero, List.set_cons_succ])
  replace M := M.congr (g := wideF n f) (fun i hi => by unfold cat; rw [if_neg (by omega), Nat.sub_zero]; exact HF.out i (by omega))
  rw [Nat.zero_add] at M
  generalize hF : wideF n f = F at *
  have HE := Lib.hid hF
  clear hF
  go_loopw [4, 3] (fun i v wr => ∃ k : Nat, k ≤ 70 ∧ i = .int .i64 k ∧ Own w wr [] [] ∧ Mine w wr v (n + k) F) (fun i _ _ => 70 - (intOf i).toNat)
  case atStart => exact ⟨0, by omega, rfl, O, M⟩
  case round =>
    obtain ⟨k, hk, rfl, O, M⟩ := hrel
    by_cases hlt : k < 70
    · have g1 : ((k : Int)) < 70 := by omega
      obtain ⟨j, hj⟩ : ∃ j, j = k % 7 := ⟨_, rfl⟩
      have r1 : (k : Int).tmod 7 = j := by rw [hj, Int.tmod_eq_emod_of_nonneg (by omega)]; omega
      have r2 : IntKind.i64.wrap (200 + (j : Int)) = 200 + j := IntWalk.i64_in _ (by omega)
      have r3 : IntKind.u8.wrap (200 + (j : Int)) = 200 + j := IntWalk.u8_in _ (by omega)
      have hv : Value.int .u8 (200 + (j : Int)) = U8 (mark k) := by
        have := u8_lit (200 + j) (by omega)
        unfold mark
        rw [← hj, ← this]
        congr 1
      obtain ⟨b, hbm⟩ : ∃ b, b = mark k := ⟨_, rfl⟩
      rw [← hbm] at hv
      have HJ := Lib.hid hbm
      clear hj hbm
      go_wp2_with (first
        | (refine own_lit1 17 b O rfl rfl rfl (by first | rfl | exact hv) ?_; clear O; intro W gl K O; replace M := M.keeps K; clear K; simp only [Act.put, List.setIfInBounds_toArray, List.set_cons_zero, List.set_cons_succ])
        | (at_builtin; refine own_append _ (n + k) 1 1 F (fun _ => b) ⟨gl, 0, none⟩ (.tmp 12) (.tmp 17) (O.drop_ 1) M rfl rfl rfl rfl (by simp) (fun j hj => by rw [add_zero_, (O.get 0 rfl).cell, bytesA_get _ _ _ hj]) (by have := HN.out; omega) ?_; clear O M; intro v1 W O M; simp only [Act.put, List.setIfInBounds_toArray, List.set_cons_zero, List.set_cons_succ]; simp only [List.drop] at O))
      clear r1 r2 r3 hv
      go_roundw
      case rel => exact ⟨k + 1, by omega, by go_num, O, M.congr fun i hi => by rw [HJ.out]; exact HW.out k i (by omega)⟩
      case measure => (simp [intOf] <;> omega)
    · obtain rfl : k = 70 := by omega
      go_wp2
      go_ret
      rw [HE.out]
      exact M.fresh (by omega) O.keep

theorem kept_any (A B : Option Addr) (n c m : Nat) (f : Nat → BitVec 8) (w : World) (hb : Byt w A n f) (hn : n ≤ 140737488351232) (hA : A = none → n = 0 ∧ c = 0) (hB : Byt w B (n + 70) (wideF n f)) :
    Calls Try.prog 29 #[.slice B (n + 70) m, .slice A n c] w fun e w' => e = .returned (.bool true) ∧ Keeps w w' [] := by
  have O := Own.start w []
  have W1 := Lib.hid fun w hb => wide_any A n c f w hb hn hA
  have HB := Lib.hid hb
  have HB' := Lib.hid hB
  have HM := Lib.hid (show n + 70 ≤ maxLen by simp only [maxLen]; omega)
  clear hb hn hA hB
  generalize wideF n f = F at *
  generalize n + 70 = N at *
  go_enter Try.func29, Try.ntmps29
  go_wp2_with (first
    | (go_at_call 18; refine (W1.out _ (HB.out.kept O.keep)).mono ?_; rintro e W ⟨K, g, c', cur, rfl, hg, b, h1, h2, h3, h4⟩; have hf := Byt.of_blk b h4; replace O := O.keeps K; clear K hg b h1 h2 h3 h4)
    | (go_at_call 28; refine (same_true B _ N m _ F _ (HB'.out.kept O.keep) hf HM.out).mono ?_; rintro e W ⟨rfl, K⟩; replace O := O.keeps K; clear K hf))
  go_ret
  exact ⟨rfl, O.keep⟩

/-! ### spoil -/
@[go_sem] theorem xor_U8_90 (t : TypeId) (x : BitVec 8) : binOp .xor t (U8 x) (.int .u8 90) = pure (U8 (x ^^^ 90#8)) := by
  have h : Value.int .u8 90 = U8 90#8 := rfl
  rw [h]
  simp only [U8, binOp_xor, Op.intBits, IntKind.bits, ofInt_toNat]
  congr 2
  exact wrap_toNat8 _
/-- The block of a slice that a call works on: the one handed in, or a new one. -/
def GoOn (w : World) (g : Nat) (v : Value) : Prop := v.ownBlock = some g ∨ ∃ h, v.ownBlock = some h ∧ w.heap.size ≤ h
section
variable {ops : Array Oper} {rest : List Oper} {o : Oper} {a : Act} {w W : World} {Q : Exit → Act → World → Prop}
theorem own_append0 (v : Value) (n g gl : Nat) (f : Nat → BitVec 8) (b : BitVec 8) (s z : Operand) (O : Own w W [g] []) (hM : W.ownsRow 0 5 1 v n (bl n f)) (hv : GoOn w g v) (hgd : o.guard = none) (ho : o.op = .call { callee := .builtin .append, args := #[s, z], argTypes := #[32, 32] })
    (hs : a.eval s = v) (hz' : a.eval z = .slice (some ⟨gl, 0, none⟩) 1 1) (hc : Blk W gl 5 (bytesA 1 fun _ => b)) (hb : n + 1 ≤ 140737488355328)
    (h : ∀ v' u, Own w u [g] [] → u.ownsRow 0 5 1 v' (n + 1) (bl (n + 1) (cat n f fun _ => b)) → GoOn w g v' → wpList Try.prog ops Q rest (a.put o.dst v') u) : wpList Try.prog ops Q (o :: rest) a W := by
  obtain ⟨i, hi, hz, hsz, hby⟩ := info5
  refine wpList_append_own_at W hgd s z 32 ho 0 5 i (.int .u8 0) 1 1 Try.underlying32 hi hz hsz hby rfl (by decide) v n (bl n f) hs hM ⟨gl, 0, none⟩ 1 1 (bl 1 fun _ => b) hz' (by rw [bl_length]) (fun j u hu => ?_) (bl_one 1 _)
    (by simp only [maxLen]; omega) (by omega) (Nat.zero_le _) fun v' u h1 h2 _ h4 => ?_
  · rw [add_zero_, hc.cell]
    simpa [bl] using hu
  · rw [bl_append] at h1
    refine h v' u ⟨O.keep.trans (Keeps.grown h2) fun x hx hlt => ?_, by simp, by simp, by simp⟩ h1 ?_
    · rcases hv with e | ⟨h', e, hh⟩
      · rw [e] at hx; simpa using hx
      · rw [e] at hx
        obtain rfl : x = h' := by simpa using hx
        omega
    · rcases h4 with h4 | h4
      · unfold GoOn; rw [h4]; exact hv
      · exact .inr ⟨_, h4, O.keep.size⟩
end
theorem row_keeps {W u : World} {v : Value} {n : Nat} {xs : List Value} (h : W.ownsRow 0 5 1 v n xs) (k : Keeps W u []) : u.ownsRow 0 5 1 v n xs := by
  refine ⟨h.1, ?_⟩
  rcases h.2 with hn | ⟨g, cap, cur, rfl, hb, hgg, rest⟩
  · exact .inl hn
  · refine .inr ⟨g, cap, cur, rfl, hb, ?_, rest⟩
    rw [k.block g (Array.getElem?_eq_some_iff.1 hgg).1 (by simp)]
    exact hgg
theorem bl_take {cs : Array Value} {n : Nat} {f : Nat → BitVec 8} (hn : n ≤ cs.size) (h : ∀ j, j < n → cs[j]? = some (U8 (f j))) : cs.toList.take n = bl n f := by
  apply List.ext_getElem?
  intro j
  rw [List.getElem?_take, bl_get]
  by_cases hj : j < n
  · rw [if_pos hj, if_pos hj, Array.getElem?_toList, h j hj]
  · rw [if_neg hj, if_neg hj]

set_option maxHeartbeats 1000000 in
theorem spoil_any (g n c : Nat) (cur : Array Value) (f : Nat → BitVec 8) (w : World) (hB : Blk w g 5 cur) (hs : cur.size = c) (hnc : n ≤ c) (hcm : c ≤ maxLen) (hf : ∀ j, j < n → cur[j]? = some (U8 (f j))) (hb : n + 70 ≤ 140737488355328) :
    Calls Try.prog 26 #[.slice (some ⟨g, 0, none⟩) n c] w fun e u => e = .returned (.tuple #[]) ∧ Keeps w u [g] := by
  have O := (Own.start w [g]).have_ hB (by simp) (by simp)
  have hcm' : c ≤ 9223372036854775807 := hcm
  clear hB
  go_enter Try.func26, Try.ntmps26
  go_wp2
  go_loopw [2] (fun i wr => ∃ (k : Nat) (cs : Array Value) (f' : Nat → BitVec 8), k ≤ n ∧ i = .int .i64 k ∧ Own w wr [g] [(g, 5, cs)] ∧ cs.size = c ∧ ∀ j, j < n → cs[j]? = some (U8 (f' j))) (fun i _ => n - (intOf i).toNat)
  case atStart => exact ⟨0, cur, f, by omega, rfl, O, hs, hf⟩
  case round =>
    obtain ⟨k, cs, f', hk, rfl, O, hcs, hf'⟩ := hrel
    have HF := Lib.hid hf'
    clear hf'
    by_cases hlt : k < n
    · have g1 : ((k : Int)) < n := by omega
      have g0 : (0 : Int) ≤ k := by omega
      have ak := add_zero_ g k
      have ck : wr.cell? ⟨g, k, none⟩ = some (U8 (f' k)) := ((O.get 0 rfl).cell k).trans (HF.out k hlt)
      go_wp2_with (first
        | (refine own_store 0 k (U8 (f' k ^^^ 90#8)) (.tmp 17) (.tmp 16) O rfl rfl rfl rfl rfl rfl (by omega) rfl rfl (by kernel_rfl) rfl ?_; clear O; intro W O; simp only [List.set_cons_zero] at O))
      clear ck ak
      go_roundw
      case rel =>
        refine ⟨k + 1, _, upd8 f' k (f' k ^^^ 90#8), by omega, by go_num, O, by simp [hcs], fun j hj => ?_⟩
        rw [Array.getElem?_setIfInBounds]
        unfold upd8
        by_cases e : j = k
        · rw [if_pos e.symm, if_pos (by omega), if_pos e]
        · rw [if_neg (Ne.symm e), if_neg e]
          exact HF.out j hj
      case measure => (simp [intOf] <;> omega)
    · obtain rfl : k = n := by omega
      have R0 : wr.ownsRow 0 5 1 (.slice (some ⟨g, 0, none⟩) k c) (k + 0) (bl (k + 0) f') :=
        ⟨by rw [bl_length]; omega, .inr ⟨g, c, cs, rfl, Nat.zero_le _, O.get 0 rfl, hnc, hcm, by omega, by rw [Nat.mul_one]; exact bl_take (by omega) HF.out⟩⟩
      replace O := O.drop_ 1
      simp only [List.drop] at O
      go_wp2
      go_loopw [3, 0] (fun i v wr => ∃ (k' : Nat) (f'' : Nat → BitVec 8), k' ≤ 70 ∧ i = .int .i64 k' ∧ Own w wr [g] [] ∧ wr.ownsRow 0 5 1 v (k + k') (bl (k + k') f'') ∧ GoOn w g v) (fun i _ _ => 70 - (intOf i).toNat)
      case atStart => exact ⟨0, f', by omega, rfl, O, R0, .inl rfl⟩
      case round =>
        obtain ⟨k', f'', hk', rfl, O, R, hg⟩ := hrel
        by_cases hlt : k' < 70
        · have g1 : ((k' : Int)) < 70 := by omega
          have r2 : IntKind.i64.wrap (17 + (k' : Int)) = 17 + k' := IntWalk.i64_in _ (by omega)
          have r3 : IntKind.u8.wrap (17 + (k' : Int)) = 17 + k' := IntWalk.u8_in _ (by omega)
          have hv : Value.int .u8 (17 + (k' : Int)) = U8 (BitVec.ofNat 8 (17 + k')) := by
            rw [← u8_lit (17 + k') (by omega)]
            congr 1
          generalize BitVec.ofNat 8 (17 + k') = b at hv
          go_wp2_with (first
            | (refine own_lit1 26 b O rfl rfl rfl (by first | rfl | exact hv) ?_; clear O; intro W gl K O; replace R := row_keeps R K; clear K; simp only [Act.put, List.setIfInBounds_toArray, List.set_cons_zero, List.set_cons_succ])
            | (at_builtin; refine own_append0 _ (k + k') g gl f'' b (.tmp 22) (.tmp 26) (O.drop_ 1) R hg rfl rfl rfl rfl (O.get 0 rfl) (by omega) ?_; clear O R hg; intro v1 W O R hg; simp only [Act.put, List.setIfInBounds_toArray, List.set_cons_zero, List.set_cons_succ]))
          clear r2 r3 hv
          go_roundw
          case rel => exact ⟨k' + 1, _, by omega, by go_num, O, R, hg⟩
          case measure => (simp [intOf] <;> omega)
        · obtain rfl : k' = 70 := by omega
          go_wp2
          go_end0
          exact ⟨rfl, O.keep⟩
end Go.Proofs.Ytanibkocihjgjaa

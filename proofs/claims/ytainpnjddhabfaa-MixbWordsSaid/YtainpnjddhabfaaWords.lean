/-
  MixbWords: Words, Start and Bytes of mixb are the reference's, for all bytes and every chain; the law returns true for every input.
-/
import Derived.Test.YtainpnjddhabfaaY5
import Derived.Test.YtainpnjddhabfaaHeld
import Derived.Test.YtainpnjddhabfaaBlock
import Derived.Laws.AppendOwnNone
import Derived.ChangeSlices
namespace Go.Proofs.Ytainpnjddhabfaa
open Go.ChangeShapes Go.WideShapes Go.ChangeAt Go.RowKit

/-! ### Bytes as they come in -/
theorem bytes5 : Try.prog.bytesOf 5 = 1 := by kernel_rfl
theorem u8_of (z : Int) (h : (Lit.int .u8 z).wf = true) : Value.int .u8 z = U8 (BitVec.ofNat 8 z.toNat) := by
  have h' : 0 ≤ z ∧ z ≤ 255 := by simp [Lit.wf] at h; exact h
  unfold U8
  rw [BitVec.toNat_ofNat]
  congr 1
  omega
theorem open_bytes {H : Type} {enc : TypeId × Value → H} {w : World} {base : Nat} {v : Value} {d : DataW H} {p : List MemPlace} (hval : Value.okWide Try.prog w .any base 49 v) (h : DataW.Trod enc Try.prog w 0 (fun _ => true) true 49 v d p) (hlt : ∀ q ∈ p, q.block < w.heap.size)
    (hz : ∀ e s, d = .slice e s → (e.length + s.length) * Try.prog.bytesOf 5 ≤ reachBytes) :
    ∃ (A : Option Addr) (n c : Nat) (f : Nat → BitVec 8), v = .slice A n c ∧ Byt w A n f ∧ n ≤ 140737488355328 ∧ (A = none → n = 0 ∧ c = 0) := by
  obtain ⟨a0, len0, cap0, rfl⟩ := okWide_slice Try.underlying49 hval
  obtain ⟨fuel, hf⟩ := h
  rcases open_ints Try.underlying49 Try.underlying5 (by kernel_rfl) hf with ⟨hcs, hx⟩ | ⟨a, len, cap, zs, hcs, _, hle, hmax, hzl, hx, hcell, hwf⟩
  · simp [Value.cells] at hcs
    obtain ⟨rfl, rfl, rfl⟩ := hcs
    exact ⟨none, 0, 0, fun _ => 0, rfl, fun hn => by omega, by omega, fun _ => ⟨rfl, rfl⟩⟩
  · simp [Value.cells] at hcs
    obtain ⟨rfl, rfl, rfl⟩ := hcs
    simp only [Prod.mk.injEq] at hx
    obtain ⟨rfl, rfl⟩ := hx
    have hzl' : zs.length = cap0 := by simpa using hzl
    have hs := hz _ _ rfl
    rw [bytes5] at hs
    have hr : reachBytes ≤ 140737488355328 := by decide
    have hs2 : cap0 ≤ reachBytes := by
      have e : (lits .u8 (zs.take len0) : List (DataW H)).length + (lits .u8 (zs.drop len0) : List (DataW H)).length = zs.length := by simp [lits]; omega
      rw [e] at hs
      omega
    refine ⟨some a, len0, cap0, fun i => BitVec.ofNat 8 (zs.getD i 0).toNat, rfl, fun hn => ⟨a, rfl, ?_, fun j hj => ?_⟩, by omega, fun h => by cases h⟩
    · exact World.block_lt_of_cell? w (a.add 0) (hcell 0 (by omega)) |> fun h => by rwa [add_block] at h
    · rw [hcell j (by omega)]
      have hj' : j < zs.length := by omega
      refine congrArg some (u8_of _ (hwf _ ?_))
      simp [List.getElem?_eq_getElem hj']

theorem Mine.open_ {w W : World} {v : Value} {n : Nat} {f : Nat → BitVec 8} {S : List Nat} {L : List Ent} (h : Mine w W v n f) (O : Own w W S L) (hL : ∀ q ∈ L, q.2.1 ≠ 5) :
    ∃ (A : Option Addr) (c : Nat) (X : List Ent), v = .slice A n c ∧ Own w W S (L ++ X) ∧ (∀ W' : World, (∀ e ∈ X, Blk W' e.1 e.2.1 e.2.2) → Byt W' A n f) := by
  rcases h.2 with ⟨rfl, hnil⟩ | ⟨g, cap, cur, rfl, hb, hgg, hnc, hcm, hcc, htake⟩
  · have hn : n = 0 := by
      have := h.1
      have e : (bl n f).length = 0 := by simp_all
      rwa [bl_length] at e
    subst hn
    exact ⟨none, 0, [], rfl, by rw [List.append_nil]; exact O, fun _ _ hn => by omega⟩
  · refine ⟨some ⟨g, 0, none⟩, cap, [(g, 5, cur)], rfl, ⟨O.keep, ?_, ?_, ?_⟩, fun W' hX hn => ⟨_, rfl, (hX (g, 5, cur) (by simp)).lt, fun j hj => ?_⟩⟩
    · intro e he
      rcases List.mem_append.1 he with he | he
      · exact O.blk e he
      · obtain rfl : e = (g, 5, cur) := by simpa using he
        exact hgg
    · intro e he hlt
      rcases List.mem_append.1 he with he | he
      · exact O.new e he hlt
      · obtain rfl : e = (g, 5, cur) := by simpa using he
        exact absurd hlt (Nat.not_lt.2 hb)
    · rw [List.map_append, List.nodup_append]
      refine ⟨O.nd, by simp, fun x hx y hy e => ?_⟩
      obtain ⟨q, hq, rfl⟩ := List.mem_map.1 hx
      obtain rfl : y = g := by simpa using hy
      have b := O.blk q hq
      rw [e] at b
      unfold Blk at b
      rw [hgg] at b
      injection b with b
      injection b with _ ht
      exact hL q hq ht.symm
    · have hc := (hX (g, 5, cur) (by simp)).cell j
      rw [add_zero_, hc]
      have e := congrArg (fun l => l[j]?) htake
      simp only [List.getElem?_take, bl_get, if_pos hj, Array.getElem?_toList] at e
      rw [if_pos (by omega)] at e
      exact e

section
variable {ops : Array Oper} {rest : List Oper} {o : Oper} {a : Act} {w W : World} {Q : Exit → Act → World → Prop} {S : List Nat} {L : List Ent}
/-- An empty literal. -/
theorem own_lit0 (d : Nat) (f : Nat → BitVec 8) (O : Own w W S L) (_hd : o.dst = some d) (hgd : o.guard = none) (ho : o.op = .buildSlice 49 0 #[])
    (h : ∀ u g, Own w u S L → Mine w u (.slice (some ⟨g, 0, none⟩) 0 0) 0 f → wpList Try.prog ops Q rest (a.put o.dst (.slice (some ⟨g, 0, none⟩) 0 0)) u) : wpList Try.prog ops Q (o :: rest) a W := by
  obtain ⟨i, hi, hz, hs, hb⟩ := info5
  have e0 : bytesA 0 f = #[] := by simp [bytesA]
  have hO := O.add (t := 5) (cs := bytesA 0 f) ((Keeps.refl _ _).alloc _) (Blk.new _ _ _)
  have hM : Mine w (W.alloc (.cells (bytesA 0 f) 5)) (.slice (some ⟨W.heap.size, 0, none⟩) 0 0) 0 f := Mine.row (Blk.new _ _ _) O.keep.size (by omega) (by simp [maxLen])
  rw [e0] at hO hM
  refine wpList_plain hgd fun K hK => ?_
  have hr : (Instr.buildSlice 49 0 #[]).run Try.prog W = .ok (.slice (some ⟨W.heap.size, 0, none⟩) 0 0) (W.alloc (.cells #[] 5)) := by
    simp [Instr.buildSlice, run_underlying Try.underlying49, sizeOf, typeInfo, hi, newRow, Instr.fill, show Array.range 0 = #[] from rfl]
  unfold Oper.wp execOp
  simp only [ho, Sem.run_bind, List.map_toArray, List.map_nil, hr, Result.andThen_ok]
  exact hK _ _ (h _ _ (hO.drop_ 1) hM)
theorem own_append_byt (v : Value) (n m c : Nat) (f g : Nat → BitVec 8) (A : Option Addr) (s z : Operand) (O : Own w W S L) (hM : Mine w W v n f) (hgd : o.guard = none) (ho : o.op = .call { callee := .builtin .append, args := #[s, z], argTypes := #[49, 49] })
    (hs : a.eval s = v) (hz' : a.eval z = .slice A m c) (hA : A = none → m = 0 ∧ c = 0) (hL : ∀ q ∈ L, q.2.1 ≠ 5) (hc : Byt W A m g) (hb : n + m ≤ 140737488355328)
    (h : ∀ v' u, Own w u S L → Mine w u v' (n + m) (cat n f g) → wpList Try.prog ops Q rest (a.put o.dst v') u) : wpList Try.prog ops Q (o :: rest) a W := by
  obtain ⟨i, hi, hz, hsz, hby⟩ := info5
  rcases A with _ | ad
  · obtain ⟨rfl, rfl⟩ := hA rfl
    exact wpList_append_own_none hgd s z 49 ho w.heap.size 5 i 1 Try.underlying49 hi v n (bl n f) hs hM hz' (h v W O (hM.congr fun i hi => by unfold cat; rw [if_pos hi]))
  · refine own_append v n m c f g ad s z O hM hgd ho hs hz' hL (fun j hj => ?_) hb h
    obtain ⟨ad', e, _, hh⟩ := hc (by omega)
    injection e with e
    subst e
    exact hh j hj
end
theorem Byt.of_fresh {u : World} {g n : Nat} {f : Nat → BitVec 8} (h : g < u.heap.size) (hc : ∀ j, j < n → u.cell? ((⟨g, 0, none⟩ : Addr).add j) = some (U8 (f j))) : Byt u (some ⟨g, 0, none⟩) n f := fun _ => ⟨_, rfl, h, hc⟩

set_option maxHeartbeats 2000000 in
theorem words_walk (A : Option Addr) (n c : Nat) (f : Nat → BitVec 8) (H : Nat → BitVec 64) (w : World) (hb : Byt w A n f) (hn : n ≤ 140737488355328) (hA : A = none → n = 0 ∧ c = 0) :
    Calls Try.prog 7 #[.slice A n c, .agg (words 8 H)] w fun e w' => e = .returned (.bool true) ∧ Keeps w w' [] := by
  have O := Own.start w []
  have hm : n ≤ maxLen := by simp only [maxLen]; omega
  have G1 := Lib.hid fun A c W (h : Byt W A n f) => words_any A n c f W h hm
  have G2 := Lib.hid fun A c W (h : Byt W A n f) => refwords_any A n c f W h hm
  have G3 := Lib.hid fun A c W (h : Byt W A n f) => start_any A n c f W h hm
  have G4 := Lib.hid fun A c W (h : Byt W A n f) => refstart_any A n c f W h hm
  have G5 := Lib.hid fun A A' c c' W (h : Byt W A n f) (h' : Byt W A' n f) => same_true A A' n c c' f W h h' hm
  have B1 := Lib.hid fun W => bytes_any H W
  have B2 := Lib.hid fun W => refbytes_any H W
  have HB := Lib.hid hb
  have HN := Lib.hid hn
  have HA := Lib.hid hA
  clear hb hn hA hm
  generalize wSt n f = R at *
  generalize sSt n f = T at *
  generalize wEr n 128 = E at *
  generalize wEr n 64 = D at *
  generalize bV H = F at *
  have n1 := eqW_self 16 R
  have n2 := eqW_self 8 T
  go_enter Try.func7, Try.ntmps7
  go_wp2_with (first
    | (refine own_box 3 (words 8 H) O rfl rfl rfl rfl ?_; clear O; intro W a3 O; simp only [Act.put, List.setIfInBounds_toArray, List.set_cons_zero, List.set_cons_succ])
    | (refine own_lit0 14 f O rfl rfl rfl ?_; clear O; intro W g14 O M; simp only [Act.put, List.setIfInBounds_toArray, List.set_cons_zero, List.set_cons_succ])
    | (at_builtin; refine own_append_byt _ 0 n c f f A (.tmp 14) (.tmp 15) O M rfl rfl rfl rfl HA.out (by simp) (HB.out.kept O.keep) (by have := HN.out; omega) ?_; intro v16 W2 O2 M2; simp only [Act.put, List.setIfInBounds_toArray, List.set_cons_zero, List.set_cons_succ]; obtain ⟨A1, c1, X, rfl, O3, hX⟩ := (M2.congr (g := f) (fun i _ => by unfold cat; rw [if_neg (by omega), Nat.sub_zero])).open_ O2 (by simp); have HX := Lib.hid hX; clear O M O2 M2 hX; have O := O3; clear O3; rw [Nat.zero_add] at *)
    | (go_at_call 21; refine (G1.out A1 c1 _ (HX.out _ (fun e he => O.blk e (by simp [he])))).mono ?_; rintro e W ⟨rfl, K⟩; replace O := O.keeps K; clear K)
    | (refine own_alloc 6 (words 16 fun _ => 0) O rfl rfl rfl (fun _ => by kernel_rfl) ?_; clear O; intro W a6 O; simp only [Act.put, List.setIfInBounds_toArray, List.set_cons_zero, List.set_cons_succ])
    | (refine own_store_row 0 (.tmp 6) (.tmp 20) O rfl rfl rfl rfl rfl rfl (by kernel_rfl) (by simp only [words_size]) (words_cell _ _) ?_; clear O; intro W O; simp only [List.set_cons_zero] at O)
    | (go_at_call 22; refine (G2.out A c _ (HB.out.kept O.keep)).mono ?_; rintro e W ⟨rfl, K⟩; replace O := O.keeps K; clear K)
    | (refine own_alloc 8 (words 16 fun _ => 0) O rfl rfl rfl (fun _ => by kernel_rfl) ?_; clear O; intro W a8 O; simp only [Act.put, List.setIfInBounds_toArray, List.set_cons_zero, List.set_cons_succ])
    | (refine own_store_row 0 (.tmp 8) (.tmp 25) O rfl rfl rfl rfl rfl rfl (by kernel_rfl) (by simp only [words_size]) (words_cell _ _) ?_; clear O; intro W O; simp only [List.set_cons_zero] at O)
    | (go_at_call 23; refine (G3.out A1 c1 _ (HX.out _ (fun e he => O.blk e (by simp [he])))).mono ?_; rintro e W ⟨rfl, K⟩; replace O := O.keeps K; clear K)
    | (refine own_alloc 10 (words 8 fun _ => 0) O rfl rfl rfl (fun _ => by kernel_rfl) ?_; clear O; intro W a10 O; simp only [Act.put, List.setIfInBounds_toArray, List.set_cons_zero, List.set_cons_succ])
    | (refine own_store_row 0 (.tmp 10) (.tmp 30) O rfl rfl rfl rfl rfl rfl (by kernel_rfl) (by simp only [words_size]) (words_cell _ _) ?_; clear O; intro W O; simp only [List.set_cons_zero] at O)
    | (go_at_call 24; refine (G4.out A c _ (HB.out.kept O.keep)).mono ?_; rintro e W ⟨rfl, K⟩; replace O := O.keeps K; clear K)
    | (refine own_alloc 12 (words 8 fun _ => 0) O rfl rfl rfl (fun _ => by kernel_rfl) ?_; clear O; intro W a12 O; simp only [Act.put, List.setIfInBounds_toArray, List.set_cons_zero, List.set_cons_succ])
    | (refine own_store_row 0 (.tmp 12) (.tmp 35) O rfl rfl rfl rfl rfl rfl (by kernel_rfl) (by simp only [words_size]) (words_cell _ _) ?_; clear O; intro W O; simp only [List.set_cons_zero] at O))
  refine wp_held (S := fun u => Own w u [] ((a12, 23, words 8 T) :: (a10, 23, words 8 T) :: (a8, 33, words 16 R) :: (a6, 33, words 16 R) :: (a3, 23, words 8 H) :: X)) 34 #[false, false, false, false, false, false, false, false, false, false, false, false, false, false, false, false, false, false, false, false, false, false, false, false, false, false, false, false, false, false, false, false, false, false] (by kernel_rfl) rfl rfl ?_
  replace O := O.drew
  refine seg_take (fuel := 13) (L' := #[true, true, true, true, true, true, true, true, true, true, true, true, true, true, true, true, true, true, true, true, false, true, false, false, false, false, false, false, false, false, false, false, false, false]) (by kernel_rfl) (fun _ _ _ _ _ _ h => h) (O) [0, 1, 2, 3, 4, 5, 6, 7, 8, 9, 10, 11, 12, 13, 14, 15, 16, 17, 18, 19, 21] [_, _, _, _, _, _, _, _, _, _, _, _, _, _, _, _, _, _, _, _, _] _ _ rfl (by kernel_rfl) ?_
  simp only [List.getElem_toArray, List.getElem_cons_zero, List.getElem_cons_succ]
  repeat (first
    | (refine take_load 37 rfl (by rfl) rfl rfl (fun _ h => Own.get h 3 rfl) Try.underlying33 rfl (by kernel_rfl) ?_; simp only [Act.put, List.setIfInBounds_toArray, List.set_cons_zero, List.set_cons_succ])
    | (refine take_load 38 rfl (by rfl) rfl rfl (fun _ h => Own.get h 2 rfl) Try.underlying33 rfl (by kernel_rfl) ?_; simp only [Act.put, List.setIfInBounds_toArray, List.set_cons_zero, List.set_cons_succ])
    | (refine take_load 46 rfl (by rfl) rfl rfl (fun _ h => Own.get h 1 rfl) Try.underlying23 rfl (by kernel_rfl) ?_; simp only [Act.put, List.setIfInBounds_toArray, List.set_cons_zero, List.set_cons_succ])
    | (refine take_load 47 rfl (by rfl) rfl rfl (fun _ h => Own.get h 0 rfl) Try.underlying23 rfl (by kernel_rfl) ?_; simp only [Act.put, List.setIfInBounds_toArray, List.set_cons_zero, List.set_cons_succ])
    | (refine take_load 56 rfl (by rfl) rfl rfl (fun _ h => Own.get h 4 rfl) Try.underlying23 rfl (by kernel_rfl) ?_; simp only [Act.put, List.setIfInBounds_toArray, List.set_cons_zero, List.set_cons_succ])
    | (refine take_load 58 rfl (by rfl) rfl rfl (fun _ h => Own.get h 4 rfl) Try.underlying23 rfl (by kernel_rfl) ?_; simp only [Act.put, List.setIfInBounds_toArray, List.set_cons_zero, List.set_cons_succ])
    | (refine take_pure (v := ?_) (by rfl) ?_ ?_; rotate_left; (· (intro w hSw; clear hSw; go_simp; try with_reducible rfl)); simp only [Act.put, List.setIfInBounds_toArray, List.set_cons_zero, List.set_cons_succ]))
  refine take_done ?_
  refine seg_sole 20 #[true, true, true, true, true, true, true, true, true, true, true, true, true, true, true, true, true, true, true, true, true, true, false, false, false, false, false, false, false, false, false, false, false, false] rfl (by kernel_rfl) ?_
  go_wp2_with (go_at_call 26; refine (B1.out _).mono ?_; rintro e W1 ⟨K1, g1, c1', rfl, p1, q1, r1⟩; replace O := O.keeps K1)
  refine back_intro O ?_
  refine seg_sole 22 #[true, true, true, true, true, true, true, true, true, true, true, true, true, true, true, true, true, true, true, true, true, true, true, false, false, false, false, false, false, false, false, false, false, false] rfl (by kernel_rfl) ?_
  go_wp2_with (go_at_call 27; refine (B2.out _).mono ?_; rintro e W2 ⟨K2, g2, c2', rfl, p2, q2, r2⟩; replace O := O.keeps K2)
  refine back_intro O ?_
  refine seg_sole 23 #[true, true, true, true, true, true, true, true, true, true, true, true, true, true, true, true, true, true, true, true, true, true, true, true, false, false, false, false, false, false, false, false, false, false] rfl (by kernel_rfl) ?_
  go_wp2_with (go_at_call 25; refine (same_true _ _ 64 _ _ F _ ((Byt.of_fresh q1 r1).kept K2) (Byt.of_fresh q2 r2) (by simp [maxLen])).mono ?_; rintro e W3 ⟨rfl, K3⟩; replace O := O.keeps K3)
  refine back_intro O ?_
  refine seg_take (fuel := 6) (L' := #[true, true, true, true, true, true, true, true, true, true, true, true, true, true, true, true, true, true, true, true, true, true, true, true, true, true, true, true, false, false, false, false, false, false]) (by kernel_rfl) (fun _ _ _ _ _ _ h => h) (O) [24, 25, 26, 27] [_, _, _, _] _ _ rfl (by kernel_rfl) ?_
  simp only [List.getElem_toArray, List.getElem_cons_zero, List.getElem_cons_succ]
  repeat (first
    | (refine take_pure (v := ?_) (by rfl) ?_ ?_; rotate_left; (· (intro w hSw; clear hSw; go_simp; try with_reducible rfl)); simp only [Act.put, List.setIfInBounds_toArray, List.set_cons_zero, List.set_cons_succ]))
  refine take_done ?_
  refine seg_sole 28 #[true, true, true, true, true, true, true, true, true, true, true, true, true, true, true, true, true, true, true, true, true, true, true, true, true, true, true, true, true, false, false, false, false, false] rfl (by kernel_rfl) ?_
  go_wp2_with (go_at_call 25; refine (G5.out A A1 c c1 _ (HB.out.kept O.keep) (HX.out _ (fun e he => O.blk e (by simp [he])))).mono ?_; rintro e W4 ⟨rfl, K4⟩; replace O := O.keeps K4)
  refine back_intro O ?_
  refine seg_take (fuel := 3) (L' := #[true, true, true, true, true, true, true, true, true, true, true, true, true, true, true, true, true, true, true, true, true, true, true, true, true, true, true, true, true, true, true, false, false, false]) (by kernel_rfl) (fun _ _ _ _ _ _ h => h) (O) [29, 30] [_, _] _ _ rfl (by kernel_rfl) ?_
  simp only [List.getElem_toArray, List.getElem_cons_zero, List.getElem_cons_succ]
  repeat (first
    | (refine take_pure (v := ?_) (by rfl) ?_ ?_; rotate_left; (· (intro w hSw; clear hSw; go_simp; try with_reducible rfl)); simp only [Act.put, List.setIfInBounds_toArray, List.set_cons_zero, List.set_cons_succ]))
  refine take_done ?_
  refine seg_sole 31 #[true, true, true, true, true, true, true, true, true, true, true, true, true, true, true, true, true, true, true, true, true, true, true, true, true, true, true, true, true, true, true, true, false, false] rfl (by kernel_rfl) ?_
  go_wp2_with (go_at_call 16; refine (awake_any _).mono ?_; rintro e W5 ⟨rfl, K5⟩; replace O := O.keeps K5)
  refine back_intro O ?_
  refine seg_take (fuel := 0) (L' := #[true, true, true, true, true, true, true, true, true, true, true, true, true, true, true, true, true, true, true, true, true, true, true, true, true, true, true, true, true, true, true, true, true, true]) (by kernel_rfl) (fun _ _ _ _ _ _ h => h) (O) [32, 33] [_, _] _ _ rfl (by kernel_rfl) ?_
  simp only [List.getElem_toArray, List.getElem_cons_zero, List.getElem_cons_succ]
  repeat (first
    | (refine take_pure (v := ?_) (by rfl) ?_ ?_; rotate_left; (· (intro w hSw; clear hSw; go_simp; try with_reducible rfl)); simp only [Act.put, List.setIfInBounds_toArray, List.set_cons_zero, List.set_cons_succ]))
  refine take_done ?_
  refine seg_done (by kernel_rfl) ?_
  go_wp2
  go_ret
  exact ⟨rfl, O.keep⟩

set_option maxRecDepth 100000 in
theorem words_lifted (os : Os) (started : os.Started) (H : Type) (enc : TypeId × Value → H) :
    ReturnsInHanded {} Try.checked os 7 .any (Rows.mixbWordsSpec.pre6 enc Try.prog Try.f7 Rows.mixbWordsRow.domain false) (Rows.mixbWordsSpec.post enc Try.prog Try.f7 false true false false) := by
  refine law_lifted (C := Try.checked) own started (by kernel_rfl) Try.func7 rfl (fun ds h => ?_) rfl Try.underlying4 laid ?_
    (ChangeSpec.witness6 (enc := enc) (C := Try.checked) false ⟨#[], #[.slice none 0 0, .agg #[.int .u64 0, .int .u64 0, .int .u64 0, .int .u64 0, .int .u64 0, .int .u64 0, .int .u64 0, .int .u64 0]], []⟩ 8 (by kernel_rfl) (by kernel_rfl) (by kernel_rfl) (by kernel_rfl)) ?_
  · match ds, h with
    | [d0, d1], _ => exact ⟨rfl, rfl, rfl⟩
  · intro t ht
    have ht' : t ∈ ([49, 23] : List TypeId) := ht
    simp only [List.mem_cons, List.not_mem_nil, or_false] at ht'
    rcases ht' with rfl | rfl
    all_goals exact ⟨by kernel_rfl, of_decide_eq_true (by kernel_rfl)⟩
  · intro W base args ds ps hval hA hlt hfz hsz
    have hA' : DataW.TrodAll enc Try.prog W 0 (fun _ => true) true [49, 23] args.toList ds ps := hA
    clear hA
    obtain ⟨v0, v1, d0, d1, p0, p1, hargs, rfl, rfl, h0, h1⟩ := trodAll_two hA'
    obtain rfl : args = #[v0, v1] := by cases args; simp_all
    obtain ⟨A, n, c, f, rfl, hb, hn, hA⟩ := open_bytes (hval 0 49 v0 rfl rfl) h0 (fun q hq => hlt q (by simp [hq])) (fun e s he => by
      subst he
      have hsz' : (DataW.weightsEach Try.prog [49, 23] [.slice e s, d1]).all (· ≤ reachBytes) = true := hsz
      exact of_decide_eq_true (List.all_eq_true.1 hsz' _ (DataW.weights_mem_each (j := 0) (t := 49) rfl rfl ((e.length + s.length) * Try.prog.bytesOf 5) (by simp [DataW.weights, Try.underlying49]))))
    obtain ⟨V, rfl⟩ := open_words (n := 8) Try.underlying23 Try.underlying22 (ts := List.replicate 8 22) (by kernel_rfl) rfl (by kernel_rfl) (fun u hu => List.eq_of_mem_replicate hu) (hval 1 23 v1 rfl rfl)
    exact (words_walk A n c f V W hb hn hA).mono fun e W' ⟨he, hk⟩ => ⟨he, hk.below⟩

theorem words_holds : Rows.MixbWordsSaid :=
  OpenClaim.holds_of_wide 7 Try.f7 rfl rfl rfl rfl rfl rfl rfl ⟨rfl, rfl, rfl, rfl, rfl⟩ rfl rfl rfl rfl rfl (by kernel_rfl) Try.func7 (by kernel_rfl)
    (of_decide_eq_true (by kernel_rfl)) (by unfold Func.isWrapper; rw [if_neg (of_decide_eq_false (by kernel_rfl))]; exact ⟨rfl, rfl⟩)
    (fun os started H enc _ => words_lifted os started H enc)
end Go.Proofs.Ytainpnjddhabfaa

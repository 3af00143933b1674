/-
  slices.Sort and slices.Compact on a row of the call's own.
-/
import Derived.Test.YtakmcpadkanggaaV1
import Derived.Test.YtakmcpadkanggaaShelf
namespace Go.Proofs.Ytakmcpadkanggaa
open Go.RowKit Go.Maps Go.Deep Go.Lib Go.Sort

section
variable {W u : World} {g off base : Nat} {cur : Array Value} {d : Array Int} {v : Value} {xs : List Int}
abbrev encI64 : Int → Value := Value.int .i64
theorem keeps_ahead (n : Nat) : Keeps W (Sort.ahead W n) [] := ⟨rfl, rfl, rfl, Nat.le_refl _, fun _ _ _ => rfl⟩
theorem keeps_grow (os : Array Obj) : Keeps W (grow W os) [] := by
  refine ⟨rfl, rfl, rfl, by simp [grow], fun b hb _ => ?_⟩
  show (W.heap ++ os)[b]? = _
  rw [Array.getElem?_append_left hb]
theorem keeps_putRow : Keeps W (putRow encI64 W g off d) [g] := by
  refine ⟨rfl, rfl, rfl, by simp, fun b hb hn => ?_⟩
  show (W.heap.modify g _)[b]? = _
  rw [Array.getElem?_modify, if_neg (by simp at hn; omega)]
theorem blk_putRow {t : TypeId} (h : Blk W g t cur) : Blk (putRow encI64 W g off d) g t (putCells encI64 off d cur) := by
  unfold Blk at *
  show (W.heap.modify g _)[g]? = _
  rw [Array.getElem?_modify, if_pos rfl, h]
  rfl
theorem putCells_size : (putCells encI64 off d cur).size = cur.size := by simp [putCells]
theorem putCells_get {j : Nat} (hj : j < d.size) (hc : off + j < cur.size) : (putCells encI64 off d cur)[off + j]? = some (.int .i64 d[j]!) := by
  unfold putCells
  rw [Array.getElem?_mapIdx, Array.getElem?_eq_getElem hc]
  simp [hj]
theorem holds_row {_cap : Nat} (hB : Blk W g 3 cur) (h : ∀ j, j < xs.length → cur[off + j]? = some (.int .i64 (xs.getD j 0))) : Holds encI64 W g off xs.toArray := by
  intro j hj
  have hj' : j < xs.length := by simpa using hj
  refine ⟨?_, frozen_of_row W g (off + j) cur 3 hB⟩
  rw [hB.cell, h j hj']
  simp [encI64, List.getD_eq_getElem?_getD, hj', getElem!_pos]
theorem Mint.hrow (h : Mint base W v xs) : HRow base W v xs := by
  obtain ⟨h0, ⟨rfl, hn⟩ | ⟨g, cap, cur, rfl, hb, hB, hle, hm, hs, ht⟩⟩ := h
  · exact .inl ⟨rfl, List.eq_nil_of_length_eq_zero hn⟩
  · refine .inr ⟨g, 0, cap, cur, rfl, hb, hB, hle, hm, by omega, fun j hj => ?_⟩
    have h1 : (cur.toList.take (xs.length * 1))[j]? = (xs.map fun x => Value.int .i64 x)[j]? := by rw [ht]
    rw [List.getElem?_take, if_pos (by omega), Array.getElem?_toList] at h1
    rw [Nat.zero_add, h1]
    simp [List.getD_eq_getElem?_getD, hj]
theorem hrow_putRow {cap : Nat} {ys : List Int} (hb : base ≤ g) (hB : Blk W g 3 cur) (hle : ys.length ≤ cap) (hm : cap ≤ maxLen) (hs : off + cap ≤ cur.size) (hd : ys.length ≤ d.size) (hdc : d.size ≤ cap) (hy : ∀ j, j < ys.length → d[j]! = ys.getD j 0) : HRow base (putRow encI64 W g off d) (.slice (some ⟨g, off, none⟩) ys.length cap) ys :=
  .inr ⟨g, off, cap, _, rfl, hb, blk_putRow hB, hle, hm, by rw [putCells_size]; exact hs, fun j hj => by rw [putCells_get (by omega) (by omega), hy j hj]⟩
set_option maxRecDepth 100000 in
/-- slices.Sort. -/
theorem sort_mint (h : HRow base W v xs) (hn : xs.length ≤ 1000000) : Calls Try.prog 95 #[v] W fun e u => e = .returned (.tuple #[]) ∧ HRow base u v (xs.mergeSort fun x y => decide (x ≤ y)) ∧ Keeps W u v.ownBlock.toList := by
  rcases h with ⟨rfl, rfl⟩ | ⟨g, off, cap, cur, rfl, hb, hB, hle, hm, hs, hx⟩
  · refine (Try.slices_Sort_int_none none 0 W).mono ?_
    rintro e u ⟨rfl, rfl⟩
    exact ⟨rfl, .inl ⟨rfl, by simp⟩, Keeps.refl _ _⟩
  · refine (Try.slices_Sort_int g off cap xs W (holds_row (_cap := cap) hB hx) hB.lt (by omega)).mono ?_
    rintro e u ⟨rfl, n, os, rfl⟩
    have hl : (xs.mergeSort fun x y => decide (x ≤ y)).length = xs.length := List.length_mergeSort _
    have hB' : Blk (Sort.ahead W n) g 3 cur := hB
    have h1 := hrow_putRow (base := base) (cap := cap) (d := (xs.mergeSort fun x y => decide (x ≤ y)).toArray) (ys := xs.mergeSort fun x y => decide (x ≤ y)) hb hB' (by omega) hm hs (by simp) (by simp; omega) (fun j hj => by simp [List.getD_eq_getElem?_getD])
    rw [hl] at h1
    refine ⟨rfl, HRow.keeps h1 (keeps_grow os) (by simp), ?_⟩
    exact (((keeps_ahead n).wide (L' := [g]) (by simp)).trans (keeps_putRow (W := Sort.ahead W n) (g := g) (off := off)) (fun b hb _ => hb)).trans (keeps_grow os) (by simp)
theorem compact_length (zs : List Int) : (Lib.compact zs).length ≤ zs.length := by
  unfold Lib.compact compactUpTo
  rw [List.length_map]
  refine Nat.le_trans (List.length_filter_le _ _) (by simp)
set_option maxRecDepth 100000 in
/-- slices.Compact. -/
theorem compact_row (h : HRow base W v xs) (hn : xs.length ≤ 1000000) : Calls Try.prog 96 #[v] W fun e u => ∃ v', e = .returned v' ∧ v'.ownBlock = v.ownBlock ∧ HRow base u v' (Lib.compact xs) ∧ Keeps W u v.ownBlock.toList := by
  rcases h with ⟨rfl, rfl⟩ | ⟨g, off, cap, cur, rfl, hb, hB, hle, hm, hs, hx⟩
  · refine (Try.slices_Compact_int_empty none 0 W).mono ?_
    rintro e u ⟨rfl, rfl⟩
    exact ⟨_, rfl, rfl, .inl ⟨rfl, by simp [Lib.compact, compactUpTo]⟩, Keeps.refl _ _⟩
  · refine (Try.slices_Compact_int g off cap xs W (holds_row (_cap := cap) hB hx) (by omega) hle).mono ?_
    rintro e u ⟨rfl, q, rfl⟩
    have hl := compact_length xs
    have hB' : Blk (Sort.ahead W q) g 3 cur := hB
    have h1 := hrow_putRow (base := base) (cap := cap) (d := (Lib.compact xs ++ List.replicate (xs.length - (Lib.compact xs).length) 0).toArray) (ys := Lib.compact xs) hb hB' (by omega) hm hs (by simp) (by simp; omega) (fun j hj => by
      simp only [List.getElem!_toArray, List.getD_eq_getElem?_getD]
      rw [List.getElem!_eq_getElem?_getD, List.getElem?_append_left hj]
      rfl)
    exact ⟨_, rfl, rfl, h1, ((keeps_ahead q).wide (L' := [g]) (by simp)).trans (keeps_putRow (W := Sort.ahead W q) (g := g) (off := off)) (fun b hb _ => hb)⟩
end
end Go.Proofs.Ytakmcpadkanggaa

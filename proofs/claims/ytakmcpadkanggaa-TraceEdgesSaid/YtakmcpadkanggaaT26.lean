/-
  A queue of integers in a slice: appended to at its end, taken from at its head.
-/
import Derived.Test.YtakmcpadkanggaaT25
namespace Go.Proofs.Ytakmcpadkanggaa
open Go.RowKit Go.Maps Go.Deep

/-- v is a slice of these numbers, in a block of its own (from block base on), maybe behind others that were taken. -/
def HRow (base : Nat) (W : World) (v : Value) (xs : List Int) : Prop :=
  (v = .slice none 0 0 ∧ xs = []) ∨ ∃ g off cap cur, v = .slice (some ⟨g, off, none⟩) xs.length cap ∧ base ≤ g ∧ Blk W g 3 cur ∧ xs.length ≤ cap ∧ cap ≤ maxLen ∧ off + cap ≤ cur.size ∧ ∀ j, j < xs.length → cur[off + j]? = some (.int .i64 (xs.getD j 0))
theorem HRow.nil (base : Nat) (W : World) : HRow base W (.slice none 0 0) [] := .inl ⟨rfl, rfl⟩
theorem HRow.own {base : Nat} {W : World} {v : Value} {xs : List Int} (h : HRow base W v xs) {g : Nat} (hg : v.ownBlock = some g) : base ≤ g ∧ ∃ cur, Blk W g 3 cur := by
  rcases h with ⟨rfl, _⟩ | ⟨g', off, cap, cur, rfl, hb, hB, _⟩
  · cases hg
  · simp [Value.ownBlock] at hg
    subst hg
    exact ⟨hb, cur, hB⟩
theorem HRow.keeps {base : Nat} {W u : World} {v : Value} {xs : List Int} {S : List Nat} (h : HRow base W v xs) (k : Keeps W u S) (hS : ∀ g, v.ownBlock = some g → g ∉ S) : HRow base u v xs := by
  rcases h with h | ⟨g, off, cap, cur, rfl, hb, hB, rest⟩
  · exact .inl h
  · exact .inr ⟨g, off, cap, cur, rfl, hb, hB.keeps k (hS g rfl), rest⟩
theorem HRow.cells {base : Nat} {W : World} {v : Value} {xs : List Int} (h : HRow base W v xs) : ∃ A c, v = .slice A xs.length c ∧ xs.length ≤ c ∧ c ≤ maxLen ∧ (0 < xs.length → ∃ ad, A = some ad ∧ ∀ j, j < xs.length → W.cell? (ad.add j) = some (.int .i64 (xs.getD j 0))) := by
  rcases h with ⟨rfl, rfl⟩ | ⟨g, off, cap, cur, rfl, hb, hB, h1, h2, h3, h4⟩
  · exact ⟨none, 0, rfl, Nat.le_refl _, by simp [maxLen], fun h => by simp at h⟩
  · exact ⟨_, cap, rfl, h1, h2, fun _ => ⟨_, rfl, fun j hj => by rw [Addr.add_mid, hB.cell]; exact h4 j hj⟩⟩
/-- Behind 's[1:]'. -/
theorem HRow.pop {base : Nat} {W : World} {x : Int} {xs : List Int} {A : Option Addr} {n c : Nat} (h : HRow base W (.slice A n c) (x :: xs)) : HRow base W (.slice (if c = 1 then A else A.map (·.add 1)) (n - 1) (c - 1)) xs := by
  rcases h with ⟨h, h'⟩ | ⟨g, off, cap, cur, h, hb, hB, h1, h2, h3, h4⟩
  · cases h'
  · injection h with e1 e2 e3
    subst e1 e2 e3
    simp only [List.length_cons] at h1 h4 ⊢
    right
    by_cases hc : c = 1
    · rw [if_pos hc]
      have hx : xs = [] := List.eq_nil_of_length_eq_zero (by omega)
      subst hx
      exact ⟨g, off, c - 1, cur, by simp, hb, hB, by simp, by omega, by omega, fun j hj => by simp at hj⟩
    · rw [if_neg hc]
      refine ⟨g, off + 1, c - 1, cur, by simp [Addr.add_mid], hb, hB, by omega, by omega, by omega, fun j hj => ?_⟩
      have := h4 (j + 1) (by omega)
      rw [show off + 1 + j = off + (j + 1) by omega, this]
      simp
section
variable {w : World}
/-- The row behind an append: the old block or a new one. -/
theorem append_fresh {P : Program} (base t ty e : Nat) (i : TypeInfo) (z : Value) (size bytes : Nat) (ht : P.underlying t = some (.slice e)) (hi : P.info? e = some i) (hz : i.zero = some z) (hsize : i.size = size) (hby : i.bytes = bytes)
    (v : Value) (n : Nat) (xs : List Value) (hown : w.ownsRow base e size v n xs) (a : Addr) (m c : Nat) (news : List Value) (hl : news.length = m * size) (hnews : ∀ j u, news[j]? = some u → w.cell? (a.add j) = some u) (h1 : ∀ u ∈ news, u.oneCell' = true)
    (h63 : n + m ≤ maxLen) (hbytes : (n + m) * bytes ≤ 140737488355328) (hm : 0 < m) {v' : Value} {w' : World} (hr : (Builtin.append_ #[t, t] ty #[v, .slice (some a) m c]).run P w = .ok v' w') : v'.ownBlock = v.ownBlock ∨ v'.ownBlock = some w.heap.size := by
  subst hsize
  subst hby
  obtain ⟨hxl, ⟨rfl, rfl⟩ | ⟨g, cap, cur, rfl, hbg, hg, hle, hcm, hcs, htake⟩⟩ := hown
  · have h := run_append_nil (P := P) w t ty e i z ht hi hz a m c news hl hnews hm (by simp only [maxLen] at h63; omega) (by have hb := hbytes; simp only [Nat.zero_add] at hb; omega)
    rw [hr] at h
    cases h
    exact .inr rfl
  · by_cases hroom : n + m ≤ cap
    · have hfit : n * i.size + news.length ≤ cur.size := by rw [hl, hcs, ← Nat.add_mul]; exact Nat.mul_le_mul_right _ hroom
      have h := run_append_room (P := P) w t ty e i ht hi g n cap cur hg a m c news hl hnews h1 hroom hfit
      rw [hr] at h
      cases h
      exact .inl rfl
    · have hown' : w.ownsRow base e i.size (.slice (some ⟨g, 0, none⟩) n cap) n xs := ⟨hxl, .inr ⟨g, cap, cur, rfl, hbg, hg, hle, hcm, hcs, htake⟩⟩
      have holds : ∀ j u, xs[j]? = some u → w.cell? ((⟨g, 0, none⟩ : Addr).add j) = some u := hown'.cells (g := g) rfl
      have h := run_append_grow (P := P) w t ty e i z ht hi hz ⟨g, 0, none⟩ n cap xs hxl holds a m c news hl hnews (by omega) (by simp only [maxLen] at h63; omega) (growslice_fits (by omega) hbytes)
      rw [hr] at h
      cases h
      exact .inr rfl
/-- 'append(s, y)'. -/
theorem run_push (base : Nat) (ty : TypeId) (v : Value) (xs : List Int) (h : HRow base w v xs) (ad : Addr) (c : Nat) (y : Int) (hy : w.cell? ad = some (.int .i64 y)) (hb : base ≤ w.heap.size) (hn : xs.length ≤ 1000000) :
    ∃ v' w', (Builtin.append_ #[25, 25] ty #[v, .slice (some ad) 1 c]).run Try.prog w = .ok v' w' ∧ HRow base w' v' (xs ++ [y]) ∧ w.grownBy w' v.ownBlock ∧ (v'.ownBlock = v.ownBlock ∨ v'.ownBlock = some w.heap.size) := by
  obtain ⟨i, hi, hz, hsz, hby⟩ := info3
  have hnews : ∀ j u, [Value.int .i64 y][j]? = some u → w.cell? (ad.add j) = some u := fun j u hu => by
    match j with
    | 0 => simp at hu; subst hu; exact hy
    | j + 1 => simp at hu
  have h1 : ∀ u ∈ [Value.int .i64 y], u.oneCell' = true := fun u hu => by rw [List.mem_singleton] at hu; subst hu; rfl
  rcases h with ⟨rfl, rfl⟩ | ⟨g, off, cap, cur, rfl, hbg, hB, hnc, hcm, hfit, hc⟩
  · obtain ⟨v', w', hr, ho, hg, _⟩ := run_append_own (P := Try.prog) w base 25 ty 3 i (.int .i64 0) 1 8 Try.underlying25 hi hz hsz hby rfl (by decide) (.slice none 0 0) 0 [] (World.ownsRow_nil _ _ _ _) ad 1 c [.int .i64 y] rfl hnews h1 (by simp [maxLen]) (by omega) hb
    refine ⟨v', w', hr, ?_, hg, append_fresh base 25 ty 3 i (.int .i64 0) 1 8 Try.underlying25 hi hz hsz hby (.slice none 0 0) 0 [] (World.ownsRow_nil _ _ _ _) ad 1 c [.int .i64 y] rfl hnews h1 (by simp [maxLen]) (by omega) (by omega) hr⟩
    obtain ⟨_, ⟨_, h0⟩ | ⟨g, cap, cur, rfl, hbg, hB, hle, hm, hs, ht⟩⟩ := ho
    · cases h0
    · refine .inr ⟨g, 0, cap, cur, rfl, hbg, hB, hle, hm, by omega, fun j hj => ?_⟩
      have hj0 : j = 0 := by simpa using hj
      subst hj0
      have := congrArg (fun l => l[0]?) ht
      simpa [List.getElem?_take] using this
  · by_cases hroom : xs.length + 1 ≤ cap
    · have hf := run_firstCells_some (P := Try.prog) w 1 1 ad 1 c [.int .i64 y] rfl hnews
      have hst := run_storeCells_at Try.prog g (off + xs.length) 3 [.int .i64 y] 0 cur w hB (by simp; omega) h1
      simp only [Nat.add_zero] at hst
      have hr : (Builtin.append_ #[25, 25] ty #[.slice (some ⟨g, off, none⟩) xs.length cap, .slice (some ad) 1 c]).run Try.prog w = .ok (.slice (some ⟨g, off, none⟩) (xs.length + 1) cap) (w.setRow g (cur.toList.take (off + xs.length) ++ [Value.int .i64 y] ++ cur.toList.drop (off + xs.length + [Value.int IntKind.i64 y].length)).toArray) := by
        simp [Builtin.append_, run_underlying Try.underlying25, sizeOf, typeInfo, hi, hsz, Builtin.lenOf, hroom, hf, Addr.add_mid, hst]
      refine ⟨_, _, hr, .inr ⟨g, off, cap, _, by simp, hbg, setRow_heap w g cur _ 3 _ hB, by simpa using hroom, hcm, ?_, fun j hj => ?_⟩, ⟨rfl, rfl, rfl, by simp, fun k _ hk => setRow_other w g k _ (fun e => hk (by simp [Value.ownBlock, e]))⟩, .inl rfl⟩
      · simp; omega
      · simp only [List.length_append, List.length_singleton] at hj
        have hsz2 : off + xs.length ≤ cur.toList.length := by simp; omega
        rw [List.getElem?_toArray, List.append_assoc]
        by_cases hj' : j < xs.length
        · rw [List.getElem?_append_left (by rw [List.length_take]; omega), List.getElem?_take, if_pos (by omega), Array.getElem?_toList, hc j hj']
          rw [List.getD_eq_getElem?_getD, List.getD_eq_getElem?_getD, List.getElem?_append_left hj']
        · obtain rfl : j = xs.length := by omega
          rw [List.getElem?_append_right (by rw [List.length_take]; omega), List.length_take, Nat.min_eq_left hsz2]
          simp
    · have holds : ∀ j u, (xs.map fun x => Value.int .i64 x)[j]? = some u → w.cell? ((⟨g, off, none⟩ : Addr).add j) = some u := fun j u hu => by
        rw [List.getElem?_map] at hu
        rcases Nat.lt_or_ge j xs.length with hj | hj
        · rw [Addr.add_mid, hB.cell, hc j hj]
          rw [List.getElem?_eq_getElem hj] at hu
          rw [← hu, List.getD_eq_getElem?_getD, List.getElem?_eq_getElem hj]
          rfl
        · rw [List.getElem?_eq_none hj] at hu
          cases hu
      have hr := run_append_grow (P := Try.prog) w 25 ty 3 i (.int .i64 0) Try.underlying25 hi hz ⟨g, off, none⟩ xs.length cap (xs.map fun x => .int .i64 x) (by rw [hsz]; simp) holds ad 1 c [.int .i64 y] (by rw [hsz]; rfl) hnews (by omega) (by omega) (growslice_fits (by omega) (by rw [hby]; omega))
      have hge := grownCap_ge w (xs.length + 1) cap 3
      have hcm2 : grownCap w (xs.length + 1) cap 3 ≤ maxLen := grownCap_le_maxLen w (xs.length + 1) cap 3 (by simp only [maxLen]; omega)
      refine ⟨_, _, hr, .inr ⟨w.heap.size, 0, _, _, by simp, hb, heap_alloc_new w.drew _, by simpa using hge, hcm2, ?_, fun j hj => ?_⟩, ⟨rfl, rfl, rfl, by simp, fun k hk _ => heap_alloc_old w.drew _ hk⟩, .inr rfl⟩
      · have z1 : (Value.int .i64 0).cells.size = 1 := rfl
        simp only [Array.size_append, List.size_toArray, size_zeroCells, z1, List.length_map, List.length_singleton]
        omega
      · simp only [List.length_append, List.length_singleton] at hj
        rw [Nat.zero_add, Array.getElem?_append_left (by simp; omega)]
        by_cases hj' : j < xs.length
        · rw [Array.getElem?_append_left (by simpa using hj'), List.getElem?_toArray, List.getElem?_map, List.getD_eq_getElem?_getD, List.getElem?_append_left hj', List.getElem?_eq_getElem hj']
          rfl
        · obtain rfl : j = xs.length := by omega
          rw [Array.getElem?_append_right (by simp)]
          simp
end
end Go.Proofs.Ytakmcpadkanggaa

/-
  What a call owns: a list of known blocks, pairwise apart, in a world that keeps what was there.
-/
import Derived.Test.YtakmcpadkanggaaBase
namespace Go.Proofs.Ytakmcpadkanggaa
open Go.RowKit

abbrev Ent := Nat × TypeId × Array Value

/-- W is w with the known blocks L (new ones, or of S), pairwise apart; all else that was there is as it was. -/
structure Own (w W : World) (S : List Nat) (L : List Ent) : Prop where
  keep : Keeps w W S
  blk : ∀ e ∈ L, Blk W e.1 e.2.1 e.2.2
  new : ∀ e ∈ L, e.1 < w.heap.size → e.1 ∈ S
  nd : (L.map (·.1)).Nodup

section
variable {w W W' : World} {S : List Nat} {L : List Ent} {g : Nat} {t : TypeId} {cs cs' : Array Value}

theorem Own.start (w : World) (S : List Nat) : Own w w S [] := ⟨Keeps.refl w S, by simp, by simp, by simp⟩
theorem Own.get (h : Own w W S L) (k : Nat) (hk : L[k]? = some (g, t, cs)) : Blk W g t cs := h.blk (g, t, cs) (List.mem_of_getElem? hk)
theorem Own.lt (h : Own w W S L) (k : Nat) (hk : L[k]? = some (g, t, cs)) : g < W.heap.size := (h.get k hk).lt
theorem Own.drewN (h : Own w W S L) (n : Nat) : Own w (W.drewN n) S L := ⟨h.keep.drewN n, fun e he => (h.blk e he).drewN n, h.new, h.nd⟩
theorem Own.drew (h : Own w W S L) : Own w W.drew S L := ⟨h.keep.drew, h.blk, h.new, h.nd⟩
theorem Own.keeps (h : Own w W S L) (k : Keeps W W' []) : Own w W' S L :=
  ⟨h.keep.trans k (by simp), fun e he => (h.blk e he).keeps k (by simp), h.new, h.nd⟩
theorem Own.later (h : Own w W S L) (p : Later W) : Own w p.1 S L := h.keeps p.2
theorem Own.add (h : Own w W S L) (k : Keeps W W' []) (b : Blk W' W.heap.size t cs) : Own w W' S ((W.heap.size, t, cs) :: L) := by
  refine ⟨h.keep.trans k (by simp), ?_, ?_, ?_⟩
  · intro e he
    rcases List.mem_cons.1 he with rfl | he
    · exact b
    · exact (h.blk e he).keeps k (by simp)
  · intro e he hlt
    rcases List.mem_cons.1 he with rfl | he
    · have := h.keep.size; simp only at hlt; omega
    · exact h.new e he hlt
  · rw [List.map_cons, List.nodup_cons]
    refine ⟨?_, h.nd⟩
    intro hm
    obtain ⟨e, he, hq⟩ := List.mem_map.1 hm
    have := (h.blk e he).lt
    simp only at hq
    omega
/-- A block of the caller's, taken in. -/
theorem Own.have_ (h : Own w W S L) (b : Blk W g t cs) (hg : g ∈ S) (hn : ∀ e ∈ L, e.1 ≠ g) : Own w W S ((g, t, cs) :: L) := by
  refine ⟨h.keep, ?_, ?_, ?_⟩
  · intro e he
    rcases List.mem_cons.1 he with rfl | he
    · exact b
    · exact h.blk e he
  · intro e he hlt
    rcases List.mem_cons.1 he with rfl | he
    · exact hg
    · exact h.new e he hlt
  · rw [List.map_cons, List.nodup_cons]
    refine ⟨?_, h.nd⟩
    intro hm
    obtain ⟨e, he, hq⟩ := List.mem_map.1 hm
    exact hn e he hq
theorem Own.apart (h : Own w W S L) {i j : Nat} {e f : Ent} (hi : L[i]? = some e) (hj : L[j]? = some f) (hij : i ≠ j) : e.1 ≠ f.1 := by
  have hn := List.pairwise_iff_getElem.1 h.nd
  obtain ⟨hi1, hi2⟩ := List.getElem?_eq_some_iff.1 hi
  obtain ⟨hj1, hj2⟩ := List.getElem?_eq_some_iff.1 hj
  rcases Nat.lt_or_ge i j with hlt | hge
  · have := hn i j (by simpa using hi1) (by simpa using hj1) hlt
    simpa [hi2, hj2] using this
  · have := hn j i (by simpa using hj1) (by simpa using hi1) (by omega)
    have h' : f.1 ≠ e.1 := by simpa [hi2, hj2] using this
    exact fun h => h' h.symm
theorem Own.set (h : Own w W S L) (k : Nat) (hk : L[k]? = some (g, t, cs)) (hw : Keeps W W' [g]) {t' : TypeId} (b : Blk W' g t' cs') : Own w W' S (L.set k (g, t', cs')) := by
  have hlt : k < L.length := (List.getElem?_eq_some_iff.1 hk).1
  refine ⟨h.keep.trans hw ?_, ?_, ?_, ?_⟩
  · intro b hb hlt
    obtain rfl : b = g := by simpa using hb
    exact h.new _ (List.mem_of_getElem? hk) hlt
  · intro e he
    obtain ⟨i, hi⟩ := List.getElem?_of_mem he
    rw [List.getElem?_set] at hi
    by_cases hki : k = i
    · subst hki
      rw [if_pos rfl, if_pos hlt] at hi
      cases hi
      exact b
    · rw [if_neg hki] at hi
      have hne := h.apart hi hk (fun e => hki e.symm)
      exact (h.blk e (List.mem_of_getElem? hi)).keeps hw (by simpa using hne)
  · intro e he hlt'
    obtain ⟨i, hi⟩ := List.getElem?_of_mem he
    rw [List.getElem?_set] at hi
    by_cases hki : k = i
    · subst hki
      rw [if_pos rfl, if_pos hlt] at hi
      cases hi
      exact h.new (g, t, cs) (List.mem_of_getElem? hk) hlt'
    · rw [if_neg hki] at hi
      exact h.new e (List.mem_of_getElem? hi) hlt'
  · have e1 : (L.set k (g, t', cs')).map (·.1) = L.map (·.1) := by
      apply List.ext_getElem?
      intro i
      rw [List.getElem?_map, List.getElem?_map, List.getElem?_set]
      by_cases hki : k = i
      · subst hki; rw [if_pos rfl, if_pos hlt, hk]; rfl
      · rw [if_neg hki]
    rw [e1]
    exact h.nd
/-- The contents told otherwise. -/
theorem Own.put (h : Own w W S L) (k : Nat) (hk : L[k]? = some (g, t, cs)) (e : cs = cs') : Own w W S (L.set k (g, t, cs')) := by
  subst e
  exact h.set k hk (Keeps.refl _ _) (h.get k hk)
theorem Own.drop_ (h : Own w W S L) (n : Nat) : Own w W S (L.drop n) :=
  ⟨h.keep, fun e he => h.blk e (List.mem_of_mem_drop he), fun e he => h.new e (List.mem_of_mem_drop he), by rw [List.map_drop]; exact List.Pairwise.sublist (List.drop_sublist _ _) h.nd⟩
theorem Own.none (h : Own w W S []) (S' : List Nat) (hs : ∀ b ∈ S, b ∈ S') : Keeps w W S' := h.keep.trans (Keeps.refl _ []) (by simp) |>.trans (Keeps.refl _ []) (by simp) |> fun k => ⟨k.os, k.tape, k.output, k.size, fun b hb hn => k.block b hb (fun hm => hn (hs b hm))⟩
end
section
variable {P : Program} {ops : Array Oper} {rest : List Oper} {o : Oper} {a : Act} {w W : World} {Q : Exit → Act → World → Prop} {S : List Nat} {L : List Ent} {T ty : TypeId} {g g' : Nat} {t t' : TypeId} {cs cs' : Array Value} {x y z : Operand}

theorem own_alloc (d : Nat) (cs : Array Value) (O : Own w W S L) (_hd : o.dst = some d) (hgd : o.guard = none) (ho : o.op = .alloc T) (hz : ∀ w, (zeroValue T).run P w = .ok (.agg cs) w)
    (h : ∀ u g, Own w u S ((g, T, cs) :: L) → wpList P ops Q rest (a.put o.dst (.pointer (some ⟨g, 0, none⟩))) u) : wpList P ops Q (o :: rest) a W :=
  wpList_alloc d cs _hd hgd ho hz fun u k b _ => h u _ (O.add k b)

theorem own_alloc1 (d : Nat) (v : Value) (O : Own w W S L) (_hd : o.dst = some d) (hgd : o.guard = none) (ho : o.op = .alloc T) (hz : ∀ w, (zeroValue T).run P w = .ok v w) (hv : v.cells = #[v])
    (h : ∀ u g, Own w u S ((g, T, #[v]) :: L) → wpList P ops Q rest (a.put o.dst (.pointer (some ⟨g, 0, none⟩))) u) : wpList P ops Q (o :: rest) a W := by
  refine wpList_plain hgd fun K hK => ?_
  have hr : (Instr.alloc T true (.tuple #[])).run P W = .ok (.pointer (some ⟨W.heap.size, 0, none⟩)) (W.alloc (.cells #[v] T)) := by
    simp [Instr.alloc, hz W, newVar, newRow, hv]
  unfold Oper.wp execOp
  simp only [ho, Sem.run_bind, hr, Result.andThen_ok, Sem.run_pure]
  exact hK _ _ (h _ _ (O.add ((Keeps.refl _ _).alloc _) (Blk.new _ _ _)))

theorem own_box (d : Nat) (cs : Array Value) (O : Own w W S L) (_hd : o.dst = some d) (hgd : o.guard = none) (ho : o.op = .box T x) (hx : a.eval x = .agg cs)
    (h : ∀ u g, Own w u S ((g, T, cs) :: L) → wpList P ops Q rest (a.put o.dst (.pointer (some ⟨g, 0, none⟩))) u) : wpList P ops Q (o :: rest) a W :=
  wpList_box d cs _hd hgd ho hx fun u k b _ => h u _ (O.add k b)

theorem own_load (d k : Nat) (O : Own w W S L) (_hd : o.dst = some d) (hgd : o.guard = none) (ho : o.op = .load ty x) (hx : a.eval x = .pointer (some ⟨g, 0, none⟩)) (hk : L[k]? = some (g, t, cs)) {e : TypeDesc}
    (hu : P.underlying ty = some e) (he : (match e with | .struct _ | .array _ _ => true | _ => false) = true) (hi : (P.info? ty).map (·.size) = some cs.size)
    (h : wpList P ops Q rest (a.put o.dst (.agg cs)) W) : wpList P ops Q (o :: rest) a W :=
  wpList_load_blk d _hd hgd ho hx (O.get k hk) hu he hi h

theorem own_load_part (d k : Nat) {off : Nat} {part : Array Value} (O : Own w W S L) (_hd : o.dst = some d) (hgd : o.guard = none) (ho : o.op = .load ty x) (hx : a.eval x = .pointer (some ⟨g, off, none⟩)) (hk : L[k]? = some (g, t, cs)) {e : TypeDesc}
    (hu : P.underlying ty = some e) (he : e.isRow = true) (hi : (P.info? ty).map (·.size) = some part.size) (hp : ∀ j, j < part.size → cs[off + j]? = part[j]?)
    (h : wpList P ops Q rest (a.put o.dst (.agg part)) W) : wpList P ops Q (o :: rest) a W :=
  wpList_load_part d _hd hgd ho hx (O.get k hk) hu he hi hp h

theorem own_store_row (k : Nat) (y z : Operand) (O : Own w W S L) (hgd : o.guard = none) (hdst : o.dst = none) (ho : o.op = .store ty y z) (hy : a.eval y = .pointer (some ⟨g, 0, none⟩)) (hz : a.eval z = .agg cs') (hk : L[k]? = some (g, t, cs))
    (hi : (P.info? ty).map (·.size) = some cs'.size) (hs : cs.size = cs'.size) (h1 : ∀ v ∈ cs'.toList, v.oneCell' = true)
    (h : ∀ u, Own w u S (L.set k (g, t, cs')) → wpList P ops Q rest a u) : wpList P ops Q (o :: rest) a W :=
  wpList_store_row y z hgd hdst ho hy hz (O.get k hk) hi hs h1 fun u kp b => h u (O.set k hk kp b)

theorem own_store (k i : Nat) (v : Value) (y z : Operand) (O : Own w W S L) (hgd : o.guard = none) (hdst : o.dst = none) (ho : o.op = .store ty y z) (hy : a.eval y = .pointer (some ⟨g, i, none⟩)) (hz : a.eval z = v) (hk : L[k]? = some (g, t, cs))
    (hi : i < cs.size) (hx : v.cells = #[v]) (h1 : v.oneCell' = true) (hs : (P.info? ty).map (·.size) = some 1) (he : cs.setIfInBounds i v = cs')
    (h : ∀ u, Own w u S (L.set k (g, t, cs')) → wpList P ops Q rest a u) : wpList P ops Q (o :: rest) a W :=
  wpList_store_blk g i t cs v hgd hdst ho hy hz (O.get k hk) hi hx h1 hs fun u kp b => h u (O.set k hk kp (by rw [← he]; exact b))

theorem own_copy_words (d k j : Nat) {n m off soff dLen dCap sLen sCap : Nat} {dT sT elem : TypeId} {V V' : Nat → BitVec 64} (O : Own w W S L)
    (_hd : o.dst = some d) (hgd : o.guard = none) (ho : o.op = .call { callee := .builtin .copy, args := #[x, y], argTypes := #[dT, sT] })
    (hx : a.eval x = .slice (some ⟨g, off, none⟩) dLen dCap) (hy : a.eval y = .slice (some ⟨g', soff, none⟩) sLen sCap)
    (hk : L[k]? = some (g, t, words n V)) (hj : L[j]? = some (g', t', words m V')) (hl : sLen = dLen) (hn : off + dLen ≤ n) (hm : soff + dLen ≤ m)
    (hu : P.underlying dT = some (.slice elem)) (hs : (P.info? elem).map (·.size) = some 1)
    (h : ∀ u, Own w u S (L.set k (g, t, words n (fun i => if off ≤ i ∧ i < off + dLen then V' (soff + (i - off)) else V i))) → wpList P ops Q rest (a.put o.dst (.int .i64 dLen)) u) : wpList P ops Q (o :: rest) a W :=
  wpList_copy_words d _hd hgd ho hx hy (O.get k hk) (O.get j hj) hl hn hm hu hs fun u kp b => h u (O.set k hk kp b)
end
end Go.Proofs.Ytakmcpadkanggaa

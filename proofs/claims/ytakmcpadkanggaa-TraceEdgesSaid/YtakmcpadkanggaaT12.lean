/-
  Lists of events: as they come in, copied, compared; trace.Valid, trace.Runners, quernref14.Valid.
-/
import Derived.Test.YtakmcpadkanggaaLite
import Derived.Laws.AppendOwnNone
import Derived.Laws.StructEq
import Derived.SizedLaws
namespace Go.Proofs.Ytakmcpadkanggaa
open Go.ChangeShapes Go.WideShapes Go.RowKit Go.Maps Go.Deep

instance Ev.some_ : Inhabited Ev := ⟨⟨0, 0, 0, 0, false⟩⟩
theorem cells37 : Try.prog.cellsOf 37 = 5 := by kernel_rfl
theorem cells4 : Try.prog.cellsOf 4 = 1 := by kernel_rfl
theorem bytes37 : Try.prog.bytesOf 37 = 40 := by kernel_rfl
section
variable {H : Type} {enc : TypeId × Value → H} {w : World}
theorem field1w {fuel j : Nat} {cs : List Value} {y : DataW H × List MemPlace} (h : DataW.trod enc Try.prog w 0 (fun _ => true) true fuel 3 ((cs.drop j).take (Try.prog.cellsOf 3)) = some y) : ∃ n : Int, cs[j]? = some (.int .i64 n) ∧ (Lit.int .i64 n).wf = true := by
  rw [cells3] at h
  obtain ⟨n, e, _, hw⟩ := DataW.trod_int Try.underlying3 h
  refine ⟨n, ?_, hw⟩
  have := congrArg (fun l => l[0]?) e
  simpa [List.getElem?_take, List.getElem?_drop] using this
theorem field1b {fuel j : Nat} {cs : List Value} {y : DataW H × List MemPlace} (h : DataW.trod enc Try.prog w 0 (fun _ => true) true fuel 4 ((cs.drop j).take (Try.prog.cellsOf 4)) = some y) : ∃ b : Bool, cs[j]? = some (.bool b) := by
  rw [cells4] at h
  obtain ⟨n, e, _⟩ := DataW.trod_bool Try.underlying4 h
  refine ⟨n, ?_⟩
  have := congrArg (fun l => l[0]?) e
  simpa [List.getElem?_take, List.getElem?_drop] using this
set_option maxRecDepth 100000 in
/-- A list of events, opened. -/
theorem open_events {base : Nat} {v : Value} {d : DataW H} {p : List MemPlace} (hval : Value.okWide Try.prog w .any base 31 v) (h : DataW.Trod enc Try.prog w 0 (fun _ => true) true 31 v d p)
    (hz : ∀ e s, d = .slice e s → (e.length + s.length) * Try.prog.bytesOf 37 ≤ reachBytes) :
    ∃ (A : Option Addr) (n c : Nat) (E : Nat → Ev), v = .slice A n c ∧ EvsAt w A n E ∧ (∀ i, i < n → (Lit.int .i64 (E i).a).wf = true) ∧ n * 40 ≤ 140737488351232 ∧ (A = none → n = 0 ∧ c = 0) := by
  obtain ⟨a0, len0, cap0, rfl⟩ := okWide_slice Try.underlying31 hval
  obtain ⟨fuel, hf⟩ := h
  rcases open_slice Try.underlying31 hf with ⟨hcs, _⟩ | ⟨a, len, cap, m, n, D, Pl, hcs, hb, hl, hm, hmm, hx, hel⟩
  · simp [Value.cells] at hcs
    obtain ⟨rfl, rfl, rfl⟩ := hcs
    exact ⟨none, 0, 0, fun _ => default, rfl, fun hn => by omega, fun i hi => by omega, by omega, fun _ => ⟨rfl, rfl⟩⟩
  · simp [Value.cells] at hcs
    obtain ⟨rfl, rfl, rfl⟩ := hcs
    simp only [if_true] at hmm
    subst hmm
    simp only [Prod.mk.injEq] at hx
    obtain ⟨rfl, rfl⟩ := hx
    have hs := hz _ _ rfl
    rw [bytes37] at hs
    simp only [List.length_map, List.length_range] at hs
    have hr : reachBytes ≤ 140737488351232 := by decide
    have key : ∀ i, i < m → ∃ e : Ev, (∀ j, j < 5 → w.cell? (a.add (i * 5 + j)) = (evC e)[j]?) ∧ (Lit.int .i64 e.a).wf = true := fun i hi => by
      obtain ⟨cs', h1, h2⟩ := hel i hi
      rw [cells37] at h1
      obtain ⟨xs, n', _, _, _, hlen, hf⟩ := DataW.trod_struct Try.underlying37 h2
      have hc := (World.cells?_some h1).2.2
      match xs, hlen with
      | [y0, y1, y2, y3, y4], _ =>
        obtain ⟨n0, e0, _⟩ := field1w (j := 0) (by simpa using hf 0 _ rfl)
        obtain ⟨n1, e1, _⟩ := field1w (j := 1) (by simpa using hf 1 _ rfl)
        obtain ⟨n2, e2, w2⟩ := field1w (j := 2) (by simpa using hf 2 _ rfl)
        obtain ⟨n3, e3, _⟩ := field1w (j := 3) (by simpa using hf 3 _ rfl)
        obtain ⟨n4, e4⟩ := field1b (j := 4) (by simpa using hf 4 _ rfl)
        refine ⟨⟨n0, n1, n2, n3, n4⟩, fun j hj => ?_, w2⟩
        rw [← Addr.add_add]
        match j, hj with
        | 0, _ => rw [hc 0 (by omega)]; exact e0
        | 1, _ => rw [hc 1 (by omega)]; exact e1
        | 2, _ => rw [hc 2 (by omega)]; exact e2
        | 3, _ => rw [hc 3 (by omega)]; exact e3
        | 4, _ => rw [hc 4 (by omega)]; exact e4
    obtain ⟨g, hg⟩ := choose_lt key
    refine ⟨some a, len0, m, g, rfl, fun hn => ⟨a, rfl, ?_, fun i j hi hj => (hg i (by omega)).1 j hj⟩, fun i hi => (hg i (by omega)).2, ?_, fun h => by cases h⟩
    · have h0 := (hg 0 (by omega)).1 0 (by omega)
      have := World.block_lt_of_cell? w _ h0
      rwa [add_block] at this
    · have : len0 * 40 ≤ (len0 + (m - len0)) * 40 := Nat.mul_le_mul_right _ (by omega)
      omega
end
theorem info37 : ∃ i, Try.prog.info? 37 = some i ∧ i.zero = some (.agg (evC ⟨0, 0, 0, 0, false⟩)) ∧ i.size = 5 ∧ i.bytes = 40 := by
  have h : (Try.prog.info? 37).map (fun i => (i.zero, i.size, i.bytes)) = some (some (.agg (evC ⟨0, 0, 0, 0, false⟩)), 5, 40) := by kernel_rfl
  obtain ⟨i, hi, he⟩ := Option.map_eq_some_iff.1 h
  simp only [Prod.mk.injEq] at he
  exact ⟨i, hi, he.1, he.2.1, he.2.2⟩
/-- The cells of n events. -/
def evL (E : Nat → Ev) (n : Nat) : List Value := (List.range (n * 5)).map fun i => (evC (E (i / 5))).getD (i % 5) undef
theorem evL_length (E : Nat → Ev) (n : Nat) : (evL E n).length = n * 5 := by simp [evL]
theorem evC_getD (e : Ev) (j : Nat) (h : j < 5) : (evC e)[j]? = some ((evC e).getD j undef) := by
  have h' : j < (evC e).size := h
  simp [h']
theorem evL_get (E : Nat → Ev) (n i j : Nat) (hi : i < n) (hj : j < 5) : (evL E n)[i * 5 + j]? = (evC (E i))[j]? := by
  rw [evC_getD _ _ hj]
  have h : i * 5 + j < n * 5 := by omega
  simp [evL, h, show (i * 5 + j) / 5 = i by omega, show (i * 5 + j) % 5 = j by omega]
theorem evL_cell (E : Nat → Ev) (n : Nat) : ∀ u ∈ evL E n, u.oneCell' = true := by
  intro u hu
  simp only [evL, List.mem_map, List.mem_range] at hu
  obtain ⟨i, _, rfl⟩ := hu
  refine evC_cell (E (i / 5)) _ ?_
  have h := evC_getD (E (i / 5)) (i % 5) (by omega)
  exact Array.mem_toList_iff.2 (Array.mem_of_getElem? h)
theorem evs_of_row {w w0 : World} {v : Value} {n : Nat} {E : Nat → Ev} (h : w.ownsRow w0.heap.size 37 5 v n (evL E n)) : ∃ B c, v = .slice B n c ∧ EvsAt w B n E := by
  obtain ⟨_, ⟨rfl, rfl⟩ | ⟨g, cap, cur, rfl, _, hb, hle, hm, hs, ht⟩⟩ := h
  · exact ⟨none, 0, rfl, fun h => by omega⟩
  · refine ⟨some ⟨g, 0, none⟩, cap, rfl, fun hn => ⟨⟨g, 0, none⟩, rfl, ?_, fun i j hi hj => ?_⟩⟩
    · rcases Nat.lt_or_ge g w.heap.size with h | h
      · exact h
      · rw [Array.getElem?_eq_none h] at hb; cases hb
    · rw [add_zero_, cell_of_row w g (i * 5 + j) cur 37 (0, 0) hb, ← evL_get E n i j hi hj, ← ht, List.getElem?_take, if_pos (by omega), Array.getElem?_toList]
section
variable {w : World} {n : Nat} {E : Nat → Ev} {B : Option Addr} {cb : Nat}
set_option maxRecDepth 100000 in
theorem copied_any (hE : EvsAt w B n E) (hB : B = none → n = 0 ∧ cb = 0) (hn : n * 40 ≤ 140737488351232) : Calls Try.prog 27 #[.slice B n cb] w fun e w' => (∃ B' c', e = .returned (.slice B' n c') ∧ EvsAt w' B' n E) ∧ Keeps w w' [] := by
  obtain ⟨i, hi, hz, hsz, hby⟩ := info37
  rcases B with _ | ad
  · obtain ⟨rfl, rfl⟩ := hB rfl
    go_enter Try.func27, Try.ntmps27
    go_wp2_with (at_builtin; refine wpList_append_own_none rfl (.tmp 4) (.tmp 5) 31 rfl w.heap.size 37 i 5 Try.underlying31 hi (.slice none 0 0) 0 [] rfl (World.ownsRow_nil _ _ _ _) rfl ?_; simp only [Act.put, List.setIfInBounds_toArray, List.set_cons_zero, List.set_cons_succ])
    go_ret
    exact ⟨⟨none, ⟨0, rfl⟩, fun h => by omega⟩, Keeps.refl _ _⟩
  · have HC := Lib.hid (show ∀ j u, (evL E n)[j]? = some u → w.cell? (ad.add j) = some u from fun j u hu => by
      have hj : j < n * 5 := by
        rcases Nat.lt_or_ge j (n * 5) with h | h
        · exact h
        · rw [List.getElem?_eq_none (by rw [evL_length]; exact h)] at hu; cases hu
      obtain ⟨ad', e, _, hc⟩ := hE (by omega)
      cases e
      have h1 := hc (j / 5) (j % 5) (by omega) (by omega)
      rw [show j / 5 * 5 + j % 5 = j by omega] at h1
      have h2 := evL_get E n (j / 5) (j % 5) (by omega) (by omega)
      rw [show j / 5 * 5 + j % 5 = j by omega] at h2
      rw [h1, ← h2, hu])
    clear hE hB
    go_enter Try.func27, Try.ntmps27
    go_wp2_with (at_builtin; refine wpList_append_own _ rfl (.tmp 4) (.tmp 5) 31 rfl w.heap.size 37 i (.agg (evC ⟨0, 0, 0, 0, false⟩)) 5 40 Try.underlying31 hi hz hsz hby rfl (by decide) (.slice none 0 0) 0 [] rfl (World.ownsRow_nil _ _ _ _) ad n cb (evL E n) rfl (evL_length E n) HC.out (evL_cell E n) (by simp only [maxLen]; omega) (by omega) (Nat.le_refl _) ?_; intro v' u h1 h2 _; simp only [Act.put, List.setIfInBounds_toArray, List.set_cons_zero, List.set_cons_succ])
    simp only [Nat.zero_add, List.nil_append] at h1
    obtain ⟨B', c', rfl, hE'⟩ := evs_of_row h1
    go_ret
    exact ⟨⟨B', ⟨c', rfl⟩, hE'⟩, ⟨h2.os, h2.tape, h2.output, h2.size, fun b hb _ => h2.block b hb (by simp [Value.ownBlock])⟩⟩
theorem ev_self (e : Ev) (w : World) : (Op.equalIn 10000 37 (.agg (evC e)) (.agg (evC e))).run Try.prog w = .ok true w := by
  have h := run_equalIn_struct (P := Try.prog) w 9999 37 (evC e) (evC e) (by kernel_rfl) (by kernel_rfl)
  show (Op.equalIn (9999 + 1) 37 _ _).run Try.prog w = _
  rw [h]
  simp [Program.fieldsOf, Try.underlying37, Op.eqFields, part, isAgg, run_underlying Try.underlying3, run_underlying Try.underlying4, evC, run_equalIn_int _ _ _ _ _ _ _ Try.underlying3, run_equalIn_bool _ _ _ _ _ Try.underlying4]
end
end Go.Proofs.Ytakmcpadkanggaa

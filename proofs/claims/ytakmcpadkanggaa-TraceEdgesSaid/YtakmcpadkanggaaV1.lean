/-
  The links of trace in memory: seven maps, four of them of rows; newLinks.
-/
import Derived.Test.YtakmcpadkanggaaT10
import Derived.Test.YtakmcpadkanggaaT26
import Derived.Test.YtakmcpadkanggaaK0
import Derived.Laws.AppendOwnNone
namespace Go.Proofs.Ytakmcpadkanggaa
open Go.RowKit Go.Maps Go.Deep

/-! ### Maps of any values -/
def rawElem (v : Value) : Option (DataW Value × List MemPlace) := some (.held v, [])
/-- Block b is a map by integers, of at most n entries: what it has at each. -/
def MapV (w : World) (b n : Nat) (f : Int → Option Value) : Prop :=
  ∃ D : DataW Value, w.ownsMap Try.prog 3 rawElem b n D ∧ ∀ k, Maps.has D (.int .i64 k) = (f k).isSome ∧ ∀ v, f k = some v → ∀ z, D.atKey (.int .i64 k) z = .held v
section
variable {w w' W : World} {S : List Nat} {b n m : Nat} {f : Int → Option Value}
theorem MapV.lt (h : MapV w b n f) : b < w.heap.size := h.choose_spec.1.lt
theorem MapV.keeps (h : MapV w b n f) (k : Keeps w w' S) (hs : b ∉ S) : MapV w' b n f := by
  obtain ⟨D, h1, h2⟩ := h
  exact ⟨D, ownsMap_block h1 (k.block b h1.lt hs), h2⟩
theorem MapV.not_blk (h : MapV w b n f) {g : Nat} {t : TypeId} {cs : Array Value} (hg : Blk w g t cs) : g ≠ b := ownsMap_not_blk h.choose_spec.1 hg
theorem MapV.mono (h : MapV w b n f) (k : n ≤ m) : MapV w b m f := by obtain ⟨D, h1, h2⟩ := h; exact ⟨D, h1.mono k, h2⟩
theorem MapV.made (w : World) : MapV (w.alloc (.map #[] 0)) w.heap.size 0 fun _ => none := ⟨.map [], World.ownsMap_made _ _ _ _, fun k => ⟨rfl, fun v h => by cases h⟩⟩
theorem MapV.at_ {D : DataW Value} (h : ∀ k, Maps.has D (.int .i64 k) = (f k).isSome ∧ ∀ v, f k = some v → ∀ z, D.atKey (.int .i64 k) z = .held v) (k : Int) (z : Value) : D.atKey (.int .i64 k) (.held z) = .held ((f k).getD z) := by
  obtain ⟨h1, h2⟩ := h k
  cases hf : f k with
  | none =>
    rw [hf] at h1
    rw [atKey_of_not_has h1]
    rfl
  | some v => rw [h2 v hf]; rfl
set_option maxRecDepth 10000 in
theorem look_eqV (h : MapV w b n f) (T e : TypeId) (z : Value) (ht : Try.prog.underlying T = some (.map 3 e)) (hz : (zeroValue e).run Try.prog w = .ok z w) (k : Int) (hk : (Lit.int .i64 k).wf = true) : (Instr.lookup T (.map (some b)) (.int .i64 k) false).run Try.prog w = .ok ((f k).getD z) w := by
  obtain ⟨D, h1, h2⟩ := h
  obtain ⟨v, ps, hrun, hR⟩ := h1.lookup key3 ht hz (zd := .held z) (zp := []) rfl (keyOf_int_mk Try.underlying3 hk)
  rw [MapV.at_ h2] at hR
  simp only [rawElem, Option.some.injEq, Prod.mk.injEq, DataW.held.injEq] at hR
  rw [hrun, hR.1]
set_option maxRecDepth 10000 in
theorem look_okV (h : MapV w b n f) (T e : TypeId) (z : Value) (ht : Try.prog.underlying T = some (.map 3 e)) (hz : (zeroValue e).run Try.prog w = .ok z w) (k : Int) (hk : (Lit.int .i64 k).wf = true) : (Instr.lookup T (.map (some b)) (.int .i64 k) true).run Try.prog w = .ok (.tuple #[(f k).getD z, .bool (f k).isSome]) w := by
  obtain ⟨D, h1, h2⟩ := h
  obtain ⟨v, ps, hrun, hR⟩ := h1.look_ok key3 ht hz (zd := .held z) (zp := []) rfl (keyOf_int_mk Try.underlying3 hk)
  rw [MapV.at_ h2] at hR
  simp only [rawElem, Option.some.injEq, Prod.mk.injEq, DataW.held.injEq] at hR
  rw [hrun, hR.1, (h2 k).1]
end
section
variable {ops : Array Oper} {rest : List Oper} {o : Oper} {a : Act} {w W : World} {Q : Exit → Act → World → Prop} {T e b n : Nat} {f : Int → Option Value} {x y z : Operand} {k : Int} {v : Value} {S : List Nat} {L : List Ent}
theorem map_storeV (M : MapV W b n f) (T e : TypeId) (ht : Try.prog.underlying T = some (.map 3 e)) (hg : o.guard = none) (ho : o.op = .mapUpdate T x y z) (hx : a.eval x = .map (some b)) (hy : a.eval y = .int .i64 k) (hk : (Lit.int .i64 k).wf = true)
    (hz : a.eval z = v) (hn : n < maxLen)
    (hK : ∀ u, Keeps W u [b] → MapV u b (n + 1) (updI f k (some v)) → wpList Try.prog ops Q rest (a.put o.dst undef) u) : wpList Try.prog ops Q (o :: rest) a W := by
  obtain ⟨D, h1, h2⟩ := M
  refine wpList_mapUpdate_own _ hg _ _ _ T ho 3 e key3 ht _ b n D hx h1 hn _ _ _ hy hz (keyOf_int_mk Try.underlying3 hk) (.held v) [] rfl fun u m g => hK u (keeps_of_grown g) ⟨_, m, fun j => ?_⟩
  by_cases hj : j = k
  · subst hj
    rw [updI_same, Maps.has_put_same (k := .int .i64 j) h1.isMap True.intro]
    exact ⟨rfl, fun v' hv z => by rw [Maps.atKey_put_same (k := .int .i64 j) h1.isMap True.intro, Option.some.inj hv]⟩
  · rw [updI_other _ _ _ _ hj, Maps.has_put_other (fun e => hj (by injection e))]
    exact ⟨(h2 j).1, fun v' hv z => by rw [Maps.atKey_put_other (fun e => hj (by injection e)), (h2 j).2 v' hv]⟩
theorem own_makeMapV (d : Nat) (O : Own w W S L) (_hd : o.dst = some d) (hgd : o.guard = none) (ho : o.op = .makeMap T none)
    (h : ∀ u b, Own w u S L → Keeps W u [] → MapV u b 0 (fun _ => none) → W.heap.size ≤ b → wpList Try.prog ops Q rest (a.put o.dst (.map (some b))) u) : wpList Try.prog ops Q (o :: rest) a W := by
  refine wpList_plain hgd fun K hK => ?_
  have k := (Keeps.refl W []).alloc (.map #[] 0)
  unfold Oper.wp execOp
  simp only [ho, Sem.run_bind, Sem.run_pure]
  exact hK _ _ (h _ _ (O.keeps k) k (MapV.made W) (Nat.le_refl _))
end
section
variable {ops : Array Oper} {rest : List Oper} {o : Oper} {a : Act} {w W : World} {Q : Exit → Act → World → Prop} {T : TypeId} {x : Operand} {S : List Nat} {L : List Ent}
theorem own_boxK (d : Nat) (cs : Array Value) (O : Own w W S L) (_hd : o.dst = some d) (hgd : o.guard = none) (ho : o.op = .box T x) (hx : a.eval x = .agg cs)
    (h : ∀ u g, Own w u S ((g, T, cs) :: L) → Keeps W u [] → W.heap.size ≤ g → wpList Try.prog ops Q rest (a.put o.dst (.pointer (some ⟨g, 0, none⟩))) u) : wpList Try.prog ops Q (o :: rest) a W :=
  wpList_box d cs _hd hgd ho hx fun u k b _ => h u _ (O.add k b) k (Nat.le_refl _)
end
theorem zero25 (w : World) : (zeroValue 25).run Try.prog w = .ok (.slice none 0 0) w := by kernel_rfl

/-! ### The links -/
def linksC (rooms : Value) (mb : Nat → Nat) : Array Value := #[rooms, .map (some (mb 4)), .map (some (mb 5)), .map (some (mb 0)), .map (some (mb 1)), .map (some (mb 6)), .map (some (mb 2)), .map (some (mb 3))]
def rowV (f : Nat → Int → Option Value) (i : Nat) (a : Int) : Value := (f i a).getD (.slice none 0 0)
structure LinksAt (W : World) (F : List Nat) (rooms : Value) (p : Nat) (mb : Nat → Nat) (f : Nat → Int → Option Value) (k : Lk) (m base : Nat) : Prop where
  blk : Blk W p 161 (linksC rooms mb)
  maps : ∀ i, i < 7 → MapV W (mb i) m (f i)
  rows : ∀ i, i < 4 → ∀ a, HRow base W (rowV f i a) (k.rows i a)
  ones : ∀ i, 4 ≤ i → i < 7 → ∀ a, f i a = (k.ones i a).map (Value.int .i64)
  ne : ∀ i i', i < 7 → i' < 7 → i ≠ i' → mb i ≠ mb i'
  inM : ∀ i, i < 7 → mb i ∈ F
  inR : ∀ i, i < 4 → ∀ a g, (rowV f i a).ownBlock = some g → g ∈ F
  pF : p ∉ F
  ltF : ∀ b ∈ F, base ≤ b ∧ b < W.heap.size
  ap : ∀ i i' a a', i < 4 → i' < 4 → (i ≠ i' ∨ a ≠ a') → ∀ g, (rowV f i a).ownBlock = some g → (rowV f i' a').ownBlock ≠ some g
section
variable {W u W1 : World} {F S : List Nat} {rooms : Value} {p : Nat} {mb : Nat → Nat} {f : Nat → Int → Option Value} {k : Lk} {m base : Nat}
theorem LinksAt.kept (h : LinksAt W F rooms p mb f k m base) (K : Keeps W u S) (hS : ∀ b ∈ S, b ∉ F ∧ b ≠ p) : LinksAt u F rooms p mb f k m base :=
  ⟨h.blk.keeps K fun hm => (hS p hm).2 rfl, fun i hi => (h.maps i hi).keeps K fun hm => (hS _ hm).1 (h.inM i hi), fun i hi a => (h.rows i hi a).keeps K fun g hg hm => (hS g hm).1 (h.inR i hi a g hg), h.ones, h.ne, h.inM, h.inR, h.pF, fun b hb => ⟨(h.ltF b hb).1, Nat.lt_of_lt_of_le (h.ltF b hb).2 K.size⟩, h.ap⟩
theorem LinksAt.mono (h : LinksAt W F rooms p mb f k m base) {m' : Nat} (hm : m ≤ m') : LinksAt W F rooms p mb f k m' base := { h with maps := fun i hi => (h.maps i hi).mono hm }
/-- One map of numbers is written. -/
theorem LinksAt.setOne (h : LinksAt W F rooms p mb f k m base) {i : Nat} (hi : 4 ≤ i) (h7 : i < 7) {a x : Int} (K : Keeps W u [mb i]) (M : MapV u (mb i) (m + 1) (updI (f i) a (some (.int .i64 x)))) :
    LinksAt u F rooms p mb (updN f i (updI (f i) a (some (.int .i64 x)))) ⟨k.rows, updN k.ones i (updI (k.ones i) a (some x))⟩ (m + 1) base := by
  have hr : ∀ j, j < 4 → ∀ a', rowV (updN f i (updI (f i) a (some (.int .i64 x)))) j a' = rowV f j a' := fun j hj a' => by
    unfold rowV updN
    rw [if_neg (by omega)]
  refine ⟨h.blk.keeps K (by simpa using (h.maps i h7).not_blk h.blk), fun j hj => ?_, fun j hj a' => ?_, fun j hj hj7 a' => ?_, h.ne, h.inM, fun j hj a' g hg => h.inR j hj a' g (by rwa [hr j hj] at hg), h.pF, fun b hb => ⟨(h.ltF b hb).1, Nat.lt_of_lt_of_le (h.ltF b hb).2 K.size⟩, fun j j' a' a'' hj hj' hne g hg => ?_⟩
  · by_cases e : j = i
    · subst e; unfold updN; rw [if_pos rfl]; exact M
    · unfold updN; rw [if_neg e]
      exact ((h.maps j hj).keeps K (by simpa using h.ne j i hj h7 e)).mono (by omega)
  · rw [hr j hj]
    refine (h.rows j hj a').keeps K fun g hg hm => ?_
    obtain rfl : g = mb i := by simpa using hm
    obtain ⟨_, cur, hb⟩ := (h.rows j hj a').own hg
    exact (h.maps i h7).not_blk hb rfl
  · by_cases e : j = i
    · subst e
      simp only [updN, if_true]
      by_cases ea : a' = a
      · subst ea; rw [updI_same, updI_same]; rfl
      · rw [updI_other _ _ _ _ ea, updI_other _ _ _ _ ea]; exact h.ones j hj hj7 a'
    · simp only [updN, if_neg e]; exact h.ones j hj hj7 a'
  · rw [hr j hj] at hg
    rw [hr j' hj']
    exact h.ap j j' a' a'' hj hj' hne g hg
/-- One row has grown, or is another, and its map is written. -/
theorem LinksAt.setRow (h : LinksAt W F rooms p mb f k m base) {i : Nat} (hi : i < 4) {a : Int} {v' : Value} {xs' : List Int} (K1 : Keeps W W1 ((rowV f i a).ownBlock.toList)) (hv : HRow base W1 v' xs')
    (hfr : v'.ownBlock = (rowV f i a).ownBlock ∨ ∀ g, v'.ownBlock = some g → W.heap.size ≤ g) (K2 : Keeps W1 u [mb i]) (M : MapV u (mb i) (m + 1) (updI (f i) a (some v'))) :
    LinksAt u (v'.ownBlock.toList ++ F) rooms p mb (updN f i (updI (f i) a (some v'))) ⟨updN k.rows i (updI (k.rows i) a xs'), k.ones⟩ (m + 1) base := by
  have hi7 : i < 7 := by omega
  have hM1 : ∀ j, j < 7 → ∀ g, (rowV f i a).ownBlock = some g → mb j ≠ g := fun j hj g hg => by
    obtain ⟨_, cur, hb⟩ := (h.rows i hi a).own hg
    exact ((h.maps j hj).not_blk hb).symm
  have maps1 : ∀ j, j < 7 → MapV W1 (mb j) m (f j) := fun j hj => (h.maps j hj).keeps K1 fun hm => hM1 j hj _ (by simpa using hm) rfl
  have hnew : ∀ g, v'.ownBlock = some g → g ∈ F ∨ W.heap.size ≤ g := fun g hg => by
    rcases hfr with e | e
    · exact .inl (h.inR i hi a g (by rw [← e]; exact hg))
    · exact .inr (e g hg)
  have hp : p < W.heap.size := h.blk.lt
  have same : ∀ a', a' = a → rowV (updN f i (updI (f i) a (some v'))) i a' = v' := fun a' e => by
    subst e; simp [rowV, updN, updI]
  have oth : ∀ j a', (j ≠ i ∨ a' ≠ a) → rowV (updN f i (updI (f i) a (some v'))) j a' = rowV f j a' := fun j a' hne => by
    unfold rowV updN
    by_cases e : j = i
    · subst e
      rw [if_pos rfl, updI_other _ _ _ _ (by rcases hne with h | h; exact absurd rfl h; exact h)]
    · rw [if_neg e]
  have keep : ∀ j a', j < 4 → (j ≠ i ∨ a' ≠ a) → HRow base u (rowV f j a') (k.rows j a') := fun j a' hj hne => by
    have h1 := (h.rows j hj a').keeps K1 fun g hg hm => by
      have hm' : (rowV f i a).ownBlock = some g := by simpa using hm
      exact h.ap j i a' a hj hi hne g hg hm'
    refine h1.keeps K2 fun g hg hm => ?_
    obtain rfl : g = mb i := by simpa using hm
    obtain ⟨_, cur, hb⟩ := h1.own hg
    exact (maps1 i hi7).not_blk hb rfl
  have hvu : HRow base u v' xs' := hv.keeps K2 fun g hg hm => by
    obtain rfl : g = mb i := by simpa using hm
    obtain ⟨_, cur, hb⟩ := hv.own hg
    exact (maps1 i hi7).not_blk hb rfl
  refine ⟨(h.blk.keeps K1 fun hm => h.pF (h.inR i hi a p (by simpa using hm))).keeps K2 fun hm => ?_, fun j hj => ?_, fun j hj a' => ?_, fun j hj hj7 a' => ?_, h.ne, fun j hj => by simp [h.inM j hj], fun j hj a' g hg => ?_, ?_, fun b hb => ?_, fun j j' a' a'' hj hj' hne g hg => ?_⟩
  · obtain rfl : p = mb i := by simpa using hm
    exact h.pF (h.inM i hi7)
  · by_cases e : j = i
    · subst e; unfold updN; rw [if_pos rfl]; exact M
    · unfold updN; rw [if_neg e]
      exact ((maps1 j hj).keeps K2 (by simpa using h.ne j i hj hi7 e)).mono (by omega)
  · by_cases e : j = i ∧ a' = a
    · obtain ⟨rfl, rfl⟩ := e
      rw [same a' rfl]
      simpa [updN, updI] using hvu
    · have hne : j ≠ i ∨ a' ≠ a := by
        by_cases e1 : j = i
        · exact .inr fun e2 => e ⟨e1, e2⟩
        · exact .inl e1
      rw [oth j a' hne]
      have e3 : (updN k.rows i (updI (k.rows i) a xs')) j a' = k.rows j a' := by
        unfold updN
        by_cases e1 : j = i
        · subst e1
          rw [if_pos rfl, updI_other _ _ _ _ (by rcases hne with h | h; exact absurd rfl h; exact h)]
        · rw [if_neg e1]
      show HRow base u _ ((updN k.rows i (updI (k.rows i) a xs')) j a')
      rw [e3]
      exact keep j a' hj hne
  · simp only [updN, if_neg (show j ≠ i by omega)]
    exact h.ones j hj hj7 a'
  · by_cases e : j = i ∧ a' = a
    · obtain ⟨rfl, rfl⟩ := e
      rw [same a' rfl] at hg
      simp [hg]
    · rw [oth j a' (by
        by_cases e1 : j = i
        · exact .inr fun e2 => e ⟨e1, e2⟩
        · exact .inl e1)] at hg
      exact List.mem_append_right _ (h.inR j hj a' g hg)
  · intro hm
    rcases List.mem_append.1 hm with hm | hm
    · rcases hnew p (by simpa using hm) with h1 | h1
      · exact h.pF h1
      · omega
    · exact h.pF hm
  · rcases List.mem_append.1 hb with hm | hm
    · obtain ⟨hb1, cur, hb2⟩ := hvu.own (g := b) (by simpa using hm)
      exact ⟨hb1, hb2.lt⟩
    · have := h.ltF b hm
      have := K1.size
      have := K2.size
      omega
  · have cross : ∀ g j' a'', v'.ownBlock = some g → j' < 4 → (j' ≠ i ∨ a'' ≠ a) → (rowV f j' a'').ownBlock ≠ some g := fun g j' a'' hg hj' hne e => by
      rcases hfr with e' | e'
      · exact h.ap j' i a'' a hj' hi hne g e (by rw [← e']; exact hg)
      · have h1 := e' g hg
        have h2 := (h.ltF g (h.inR j' hj' a'' g e)).2
        omega
    have dec : ∀ j a', (j = i ∧ a' = a) ∨ (j ≠ i ∨ a' ≠ a) := fun j a' => by
      by_cases e1 : j = i
      · by_cases e2 : a' = a
        · exact .inl ⟨e1, e2⟩
        · exact .inr (.inr e2)
      · exact .inr (.inl e1)
    rcases dec j a' with ⟨rfl, rfl⟩ | e1
    · rcases dec j' a'' with ⟨rfl, rfl⟩ | e2
      · rcases hne with h | h <;> exact absurd rfl h
      · rw [same _ rfl] at hg
        rw [oth _ _ e2]
        exact cross g j' a'' hg hj' e2
    · rcases dec j' a'' with ⟨rfl, rfl⟩ | e2
      · rw [oth _ _ e1] at hg
        rw [same _ rfl]
        intro e
        exact cross g j a' e hj e1 hg
      · rw [oth _ _ e1] at hg
        rw [oth _ _ e2]
        exact h.ap j j' a' a'' hj hj' hne g hg
end

/-! ### newLinks -/
section
variable {w : World} {S : Sys} {A : Option Addr} {c : Nat} {R : Option Addr} {d : Nat}
theorem linksC_cell (rooms : Value) (mb : Nat → Nat) (h : rooms.oneCell' = true) : ∀ v ∈ (linksC rooms mb).toList, v.oneCell' = true := by
  intro v hv
  simp only [linksC, List.mem_cons, List.not_mem_nil, or_false] at hv
  rcases hv with rfl | rfl | rfl | rfl | rfl | rfl | rfl | rfl <;> first | exact h | rfl
set_option maxRecDepth 100000 in
theorem newLinks_any : Calls Try.prog 69 #[.agg (sysV S A c R d)] w fun e W => (∃ p F mb f, e = .returned (.pointer (some ⟨p, 0, none⟩)) ∧ LinksAt W F (.slice R S.nr d) p mb f lk0 0 w.heap.size ∧ w.heap.size ≤ p) ∧ Keeps w W [] := by
  have O := Own.start w []
  go_enter Try.func69, Try.ntmps69
  go_wp2_with (first
    | (refine own_box 1 (sysV S A c R d) O rfl rfl rfl rfl ?_; clear O; intro W a1 O; simp only [Act.put, List.setIfInBounds_toArray, List.set_cons_zero, List.set_cons_succ]; have c1 : W.cell? ⟨a1, 1, none⟩ = some (.slice R S.nr d) := (O.get 0 rfl).cell 1)
    | (refine at_dst 5 rfl ?_; have HW := O.keep.size; refine own_makeMapV 5 O rfl rfl rfl ?_; clear O; intro W b5 O Kx M5 hb; have z5 : w.heap.size ≤ b5 := Nat.le_trans HW hb; clear HW Kx hb c1; simp only [Act.put, List.setIfInBounds_toArray, List.set_cons_zero, List.set_cons_succ])
    | (refine at_dst 6 rfl ?_; have HW := O.keep.size; refine own_makeMapV 6 O rfl rfl rfl ?_; clear O; intro W b6 O Kx M6 hb; have n5_6 : b5 < b6 := Nat.lt_of_lt_of_le M5.lt hb; replace M5 := M5.keeps Kx (by simp); have z6 : w.heap.size ≤ b6 := Nat.le_trans HW hb; clear HW Kx hb; simp only [Act.put, List.setIfInBounds_toArray, List.set_cons_zero, List.set_cons_succ])
    | (refine at_dst 7 rfl ?_; have HW := O.keep.size; refine own_makeMapV 7 O rfl rfl rfl ?_; clear O; intro W b7 O Kx M7 hb; have n5_7 : b5 < b7 := Nat.lt_of_lt_of_le M5.lt hb; replace M5 := M5.keeps Kx (by simp); have n6_7 : b6 < b7 := Nat.lt_of_lt_of_le M6.lt hb; replace M6 := M6.keeps Kx (by simp); have z7 : w.heap.size ≤ b7 := Nat.le_trans HW hb; clear HW Kx hb; simp only [Act.put, List.setIfInBounds_toArray, List.set_cons_zero, List.set_cons_succ])
    | (refine at_dst 8 rfl ?_; have HW := O.keep.size; refine own_makeMapV 8 O rfl rfl rfl ?_; clear O; intro W b8 O Kx M8 hb; have n5_8 : b5 < b8 := Nat.lt_of_lt_of_le M5.lt hb; replace M5 := M5.keeps Kx (by simp); have n6_8 : b6 < b8 := Nat.lt_of_lt_of_le M6.lt hb; replace M6 := M6.keeps Kx (by simp); have n7_8 : b7 < b8 := Nat.lt_of_lt_of_le M7.lt hb; replace M7 := M7.keeps Kx (by simp); have z8 : w.heap.size ≤ b8 := Nat.le_trans HW hb; clear HW Kx hb; simp only [Act.put, List.setIfInBounds_toArray, List.set_cons_zero, List.set_cons_succ])
    | (refine at_dst 9 rfl ?_; have HW := O.keep.size; refine own_makeMapV 9 O rfl rfl rfl ?_; clear O; intro W b9 O Kx M9 hb; have n5_9 : b5 < b9 := Nat.lt_of_lt_of_le M5.lt hb; replace M5 := M5.keeps Kx (by simp); have n6_9 : b6 < b9 := Nat.lt_of_lt_of_le M6.lt hb; replace M6 := M6.keeps Kx (by simp); have n7_9 : b7 < b9 := Nat.lt_of_lt_of_le M7.lt hb; replace M7 := M7.keeps Kx (by simp); have n8_9 : b8 < b9 := Nat.lt_of_lt_of_le M8.lt hb; replace M8 := M8.keeps Kx (by simp); have z9 : w.heap.size ≤ b9 := Nat.le_trans HW hb; clear HW Kx hb; simp only [Act.put, List.setIfInBounds_toArray, List.set_cons_zero, List.set_cons_succ])
    | (refine at_dst 10 rfl ?_; have HW := O.keep.size; refine own_makeMapV 10 O rfl rfl rfl ?_; clear O; intro W b10 O Kx M10 hb; have n5_10 : b5 < b10 := Nat.lt_of_lt_of_le M5.lt hb; replace M5 := M5.keeps Kx (by simp); have n6_10 : b6 < b10 := Nat.lt_of_lt_of_le M6.lt hb; replace M6 := M6.keeps Kx (by simp); have n7_10 : b7 < b10 := Nat.lt_of_lt_of_le M7.lt hb; replace M7 := M7.keeps Kx (by simp); have n8_10 : b8 < b10 := Nat.lt_of_lt_of_le M8.lt hb; replace M8 := M8.keeps Kx (by simp); have n9_10 : b9 < b10 := Nat.lt_of_lt_of_le M9.lt hb; replace M9 := M9.keeps Kx (by simp); have z10 : w.heap.size ≤ b10 := Nat.le_trans HW hb; clear HW Kx hb; simp only [Act.put, List.setIfInBounds_toArray, List.set_cons_zero, List.set_cons_succ])
    | (refine at_dst 11 rfl ?_; have HW := O.keep.size; refine own_makeMapV 11 O rfl rfl rfl ?_; clear O; intro W b11 O Kx M11 hb; have n5_11 : b5 < b11 := Nat.lt_of_lt_of_le M5.lt hb; replace M5 := M5.keeps Kx (by simp); have n6_11 : b6 < b11 := Nat.lt_of_lt_of_le M6.lt hb; replace M6 := M6.keeps Kx (by simp); have n7_11 : b7 < b11 := Nat.lt_of_lt_of_le M7.lt hb; replace M7 := M7.keeps Kx (by simp); have n8_11 : b8 < b11 := Nat.lt_of_lt_of_le M8.lt hb; replace M8 := M8.keeps Kx (by simp); have n9_11 : b9 < b11 := Nat.lt_of_lt_of_le M9.lt hb; replace M9 := M9.keeps Kx (by simp); have n10_11 : b10 < b11 := Nat.lt_of_lt_of_le M10.lt hb; replace M10 := M10.keeps Kx (by simp); have z11 : w.heap.size ≤ b11 := Nat.le_trans HW hb; clear HW Kx hb; simp only [Act.put, List.setIfInBounds_toArray, List.set_cons_zero, List.set_cons_succ])
    | (refine wpList_const 12 (.agg (linksC (.slice R S.nr d) fun i => [b7, b8, b10, b11, b5, b6, b9].getD i 0)) rfl rfl (fun _ => by kernel_rfl) ?_; simp only [Act.put, List.setIfInBounds_toArray, List.set_cons_zero, List.set_cons_succ])
    | (refine at_dst 13 rfl ?_; have HW := O.keep.size; refine own_boxK 13 (linksC (.slice R S.nr d) fun i => [b7, b8, b10, b11, b5, b6, b9].getD i 0) O rfl rfl rfl rfl ?_; intro u p O2 Kx hp; simp only [Act.put, List.setIfInBounds_toArray, List.set_cons_zero, List.set_cons_succ])
    | go_big_skip)
  have nd : [b7, b8, b10, b11, b5, b6, b9].Nodup := by
    simp only [List.nodup_cons, List.mem_cons, List.not_mem_nil, or_false, not_or, List.nodup_nil, and_true, not_false_eq_true]
    omega
  have hlt : ∀ b ∈ [b7, b8, b10, b11, b5, b6, b9], w.heap.size ≤ b ∧ b < W.heap.size := by
    have := M5.lt; have := M6.lt; have := M7.lt; have := M8.lt; have := M9.lt; have := M10.lt; have := M11.lt
    intro b hb
    simp only [List.mem_cons, List.not_mem_nil, or_false] at hb
    omega
  go_ret
  refine ⟨⟨p, [b7, b8, b10, b11, b5, b6, b9], _, fun _ _ => none, rfl, ⟨O2.get 0 rfl, fun i hi => ?_, fun i _ a => HRow.nil _ _, fun i _ _ a => rfl, fun i i' hi hi' hne e => ?_, fun i hi => ?_, fun i _ a g hg => (by cases hg), fun hm => ?_, fun b hb => ?_, fun i i' a a' _ _ _ g hg => (by cases hg)⟩, Nat.le_trans HW hp⟩, O2.keep⟩
  · match i, hi with
    | 0, _ => exact M7.keeps Kx (by simp)
    | 1, _ => exact M8.keeps Kx (by simp)
    | 2, _ => exact M10.keeps Kx (by simp)
    | 3, _ => exact M11.keeps Kx (by simp)
    | 4, _ => exact M5.keeps Kx (by simp)
    | 5, _ => exact M6.keeps Kx (by simp)
    | 6, _ => exact M9.keeps Kx (by simp)
  · have hp := List.pairwise_iff_getElem.1 nd
    simp only [List.getD_eq_getElem?_getD, List.getElem?_eq_getElem (show i < [b7, b8, b10, b11, b5, b6, b9].length from hi), List.getElem?_eq_getElem (show i' < [b7, b8, b10, b11, b5, b6, b9].length from hi'), Option.getD_some] at e
    rcases Nat.lt_or_gt_of_ne hne with h | h
    · exact hp i i' hi hi' h e
    · exact hp i' i hi' hi h e.symm
  · simp only [List.getD_eq_getElem?_getD, List.getElem?_eq_getElem (show i < [b7, b8, b10, b11, b5, b6, b9].length from hi), Option.getD_some]
    exact List.getElem_mem _
  · have := hlt p hm
    omega
  · have := hlt b hb
    have := Kx.size
    omega
end
end Go.Proofs.Ytakmcpadkanggaa

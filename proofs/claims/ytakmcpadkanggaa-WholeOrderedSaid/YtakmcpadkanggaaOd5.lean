/-
 Part 5 of what this claim rests on.
-/
import Derived.Shelf.Small.Bits
import Derived.Shelf.Small.Wraps
import Derived.Shelf.Strconv.Itoa0
import Derived.Shelf.Sort.Plain
import Derived.Shelf.Slices.Turned
import Derived.Ground.Names2Prog
import Derived.Shelf.Slices.Clone
import Derived.Shelf.Slices.CompactI
import Derived.Shelf.Slices.SearchI
import Derived.Shelf.Slices.Cells
import Derived.Shelf.Slices.In.SortNone
import Derived.Ground.SlgnProg
import Derived.Shelf.SlicesE.Clone
import Derived.Lib.MinMax
import Derived.Test.YtakmcpadkanggaaOd4
namespace Go.Proofs.Ytakmcpadkanggaa
open Go.RowKit Go.Maps Go.Deep
def rawElem (v : Value) : Option (DataW Value × List MemPlace) := some (.held v, [])
def MapV (w : World) (b n : Nat) (f : Int → Option Value) : Prop :=
 ∃ D : DataW Value, w.ownsMap Try.prog 3 rawElem b n D ∧ ∀ k, Maps.has D (.int .i64 k) = (f k).isSome ∧ ∀ v, f k = some v → ∀ z, D.atKey (.int .i64 k) z = .held v
section
variable {w w' W : World} {S : List Nat} {b n m : Nat} {f : Int → Option Value}
theorem MapV.lt (h : MapV w b n f) : b < w.heap.size := h.choose_spec.1.lt
theorem MapV.keeps (h : MapV w b n f) (k : Keeps w w' S) (hs : b ∉ S) : MapV w' b n f := by
 obtain ⟨D, h1, h2⟩ := h
 exact ⟨D, ownsMap_block h1 (k.block b h1.lt hs), h2⟩
theorem MapV.not_blk (h : MapV w b n f) {g : Nat} {t : TypeId} {cs : Array Value} (hg : Blk w g t cs) : g ≠ b := ownsMap_not_blk h.choose_spec.1 hg
theorem MapV.mono (h : MapV w b n f) (k : n ≤ m) : MapV w b m f := by obtain ⟨D, h1, h2⟩ := h; exact ⟨D, h1.mono k, h2⟩
theorem MapV.made (w : World) : MapV (w.alloc (.map #[] 0)) w.heap.size 0 fun _ => none := ⟨.map [], World.ownsMap_made _ _ _ _, fun k => ⟨rfl, fun v h => by cases h⟩⟩
theorem MapV.at_ {D : DataW Value} (h : ∀ k, Maps.has D (.int .i64 k) = (f k).isSome ∧ ∀ v, f k = some v → ∀ z, D.atKey (.int .i64 k) z = .held v) (k : Int) (z : Value) : D.atKey (.int .i64 k) (.held z) = .held ((f k).getD z) := by
 obtain ⟨h1, h2⟩ := h k
 cases hf : f k with
 | none =>
   rw [hf] at h1
   rw [atKey_of_not_has h1]
   rfl
 | some v => rw [h2 v hf]; rfl
set_option maxRecDepth 10000 in
theorem look_eqV (h : MapV w b n f) (T e : TypeId) (z : Value) (ht : Try.prog.underlying T = some (.map 3 e)) (hz : (zeroValue e).run Try.prog w = .ok z w) (k : Int) (hk : (Lit.int .i64 k).wf = true) : (Instr.lookup T (.map (some b)) (.int .i64 k) false).run Try.prog w = .ok ((f k).getD z) w := by
 obtain ⟨D, h1, h2⟩ := h
 obtain ⟨v, ps, hrun, hR⟩ := h1.lookup key3 ht hz (zd := .held z) (zp := []) rfl (keyOf_int_mk Try.underlying3 hk)
 rw [MapV.at_ h2] at hR
 simp only [rawElem, Option.some.injEq, Prod.mk.injEq, DataW.held.injEq] at hR
 rw [hrun, hR.1]
set_option maxRecDepth 10000 in
theorem look_okV (h : MapV w b n f) (T e : TypeId) (z : Value) (ht : Try.prog.underlying T = some (.map 3 e)) (hz : (zeroValue e).run Try.prog w = .ok z w) (k : Int) (hk : (Lit.int .i64 k).wf = true) : (Instr.lookup T (.map (some b)) (.int .i64 k) true).run Try.prog w = .ok (.tuple #[(f k).getD z, .bool (f k).isSome]) w := by
 obtain ⟨D, h1, h2⟩ := h
 obtain ⟨v, ps, hrun, hR⟩ := h1.look_ok key3 ht hz (zd := .held z) (zp := []) rfl (keyOf_int_mk Try.underlying3 hk)
 rw [MapV.at_ h2] at hR
 simp only [rawElem, Option.some.injEq, Prod.mk.injEq, DataW.held.injEq] at hR
 rw [hrun, hR.1, (h2 k).1]
end
section
variable {ops : Array Oper} {rest : List Oper} {o : Oper} {a : Act} {w W : World} {Q : Exit → Act → World → Prop} {T e b n : Nat} {f : Int → Option Value} {x y z : Operand} {k : Int} {v : Value} {S : List Nat} {L : List Ent}
theorem map_storeV (M : MapV W b n f) (T e : TypeId) (ht : Try.prog.underlying T = some (.map 3 e)) (hg : o.guard = none) (ho : o.op = .mapUpdate T x y z) (hx : a.eval x = .map (some b)) (hy : a.eval y = .int .i64 k) (hk : (Lit.int .i64 k).wf = true)
   (hz : a.eval z = v) (hn : n < maxLen)
   (hK : ∀ u, Keeps W u [b] → MapV u b (n + 1) (updI f k (some v)) → wpList Try.prog ops Q rest (a.put o.dst undef) u) : wpList Try.prog ops Q (o :: rest) a W := by
 obtain ⟨D, h1, h2⟩ := M
 refine wpList_mapUpdate_own _ hg _ _ _ T ho 3 e key3 ht _ b n D hx h1 hn _ _ _ hy hz (keyOf_int_mk Try.underlying3 hk) (.held v) [] rfl fun u m g => hK u (keeps_of_grown g) ⟨_, m, fun j => ?_⟩
 by_cases hj : j = k
 · subst hj
   rw [updI_same, Maps.has_put_same (k := .int .i64 j) h1.isMap True.intro]
   exact ⟨rfl, fun v' hv z => by rw [Maps.atKey_put_same (k := .int .i64 j) h1.isMap True.intro, Option.some.inj hv]⟩
 · rw [updI_other _ _ _ _ hj, Maps.has_put_other (fun e => hj (by injection e))]
   exact ⟨(h2 j).1, fun v' hv z => by rw [Maps.atKey_put_other (fun e => hj (by injection e)), (h2 j).2 v' hv]⟩
theorem own_makeMapV (d : Nat) (O : Own w W S L) (_hd : o.dst = some d) (hgd : o.guard = none) (ho : o.op = .makeMap T none)
   (h : ∀ u b, Own w u S L → Keeps W u [] → MapV u b 0 (fun _ => none) → W.heap.size ≤ b → wpList Try.prog ops Q rest (a.put o.dst (.map (some b))) u) : wpList Try.prog ops Q (o :: rest) a W := by
 refine wpList_plain hgd fun K hK => ?_
 have k := (Keeps.refl W []).alloc (.map #[] 0)
 unfold Oper.wp execOp
 simp only [ho, Sem.run_bind, Sem.run_pure]
 exact hK _ _ (h _ _ (O.keeps k) k (MapV.made W) (Nat.le_refl _))
end
section
variable {ops : Array Oper} {rest : List Oper} {o : Oper} {a : Act} {w W : World} {Q : Exit → Act → World → Prop} {T : TypeId} {x : Operand} {S : List Nat} {L : List Ent}
theorem own_boxK (d : Nat) (cs : Array Value) (O : Own w W S L) (_hd : o.dst = some d) (hgd : o.guard = none) (ho : o.op = .box T x) (hx : a.eval x = .agg cs)
   (h : ∀ u g, Own w u S ((g, T, cs) :: L) → Keeps W u [] → W.heap.size ≤ g → wpList Try.prog ops Q rest (a.put o.dst (.pointer (some ⟨g, 0, none⟩))) u) : wpList Try.prog ops Q (o :: rest) a W :=
 wpList_box d cs _hd hgd ho hx fun u k b _ => h u _ (O.add k b) k (Nat.le_refl _)
end
theorem zero25 (w : World) : (zeroValue 25).run Try.prog w = .ok (.slice none 0 0) w := by kernel_rfl
def linksC (rooms : Value) (mb : Nat → Nat) : Array Value := #[rooms, .map (some (mb 4)), .map (some (mb 5)), .map (some (mb 0)), .map (some (mb 1)), .map (some (mb 6)), .map (some (mb 2)), .map (some (mb 3))]
def rowV (f : Nat → Int → Option Value) (i : Nat) (a : Int) : Value := (f i a).getD (.slice none 0 0)
structure LinksAt (W : World) (F : List Nat) (rooms : Value) (p : Nat) (mb : Nat → Nat) (f : Nat → Int → Option Value) (k : Lk) (m base : Nat) : Prop where
 blk : Blk W p 161 (linksC rooms mb)
 maps : ∀ i, i < 7 → MapV W (mb i) m (f i)
 rows : ∀ i, i < 4 → ∀ a, HRow base W (rowV f i a) (k.rows i a)
 ones : ∀ i, 4 ≤ i → i < 7 → ∀ a, f i a = (k.ones i a).map (Value.int .i64)
 ne : ∀ i i', i < 7 → i' < 7 → i ≠ i' → mb i ≠ mb i'
 inM : ∀ i, i < 7 → mb i ∈ F
 inR : ∀ i, i < 4 → ∀ a g, (rowV f i a).ownBlock = some g → g ∈ F
 pF : p ∉ F
 ltF : ∀ b ∈ F, base ≤ b ∧ b < W.heap.size
 ap : ∀ i i' a a', i < 4 → i' < 4 → (i ≠ i' ∨ a ≠ a') → ∀ g, (rowV f i a).ownBlock = some g → (rowV f i' a').ownBlock ≠ some g
section
variable {W u W1 : World} {F S : List Nat} {rooms : Value} {p : Nat} {mb : Nat → Nat} {f : Nat → Int → Option Value} {k : Lk} {m base : Nat}
theorem LinksAt.kept (h : LinksAt W F rooms p mb f k m base) (K : Keeps W u S) (hS : ∀ b ∈ S, b ∉ F ∧ b ≠ p) : LinksAt u F rooms p mb f k m base :=
 ⟨h.blk.keeps K fun hm => (hS p hm).2 rfl, fun i hi => (h.maps i hi).keeps K fun hm => (hS _ hm).1 (h.inM i hi), fun i hi a => (h.rows i hi a).keeps K fun g hg hm => (hS g hm).1 (h.inR i hi a g hg), h.ones, h.ne, h.inM, h.inR, h.pF, fun b hb => ⟨(h.ltF b hb).1, Nat.lt_of_lt_of_le (h.ltF b hb).2 K.size⟩, h.ap⟩
theorem LinksAt.mono (h : LinksAt W F rooms p mb f k m base) {m' : Nat} (hm : m ≤ m') : LinksAt W F rooms p mb f k m' base := { h with maps := fun i hi => (h.maps i hi).mono hm }
theorem LinksAt.setOne (h : LinksAt W F rooms p mb f k m base) {i : Nat} (hi : 4 ≤ i) (h7 : i < 7) {a x : Int} (K : Keeps W u [mb i]) (M : MapV u (mb i) (m + 1) (updI (f i) a (some (.int .i64 x)))) :
   LinksAt u F rooms p mb (updN f i (updI (f i) a (some (.int .i64 x)))) ⟨k.rows, updN k.ones i (updI (k.ones i) a (some x))⟩ (m + 1) base := by
 have hr : ∀ j, j < 4 → ∀ a', rowV (updN f i (updI (f i) a (some (.int .i64 x)))) j a' = rowV f j a' := fun j hj a' => by
   unfold rowV updN
   rw [if_neg (by omega)]
 refine ⟨h.blk.keeps K (by simpa using (h.maps i h7).not_blk h.blk), fun j hj => ?_, fun j hj a' => ?_, fun j hj hj7 a' => ?_, h.ne, h.inM, fun j hj a' g hg => h.inR j hj a' g (by rwa [hr j hj] at hg), h.pF, fun b hb => ⟨(h.ltF b hb).1, Nat.lt_of_lt_of_le (h.ltF b hb).2 K.size⟩, fun j j' a' a'' hj hj' hne g hg => ?_⟩
 · by_cases e : j = i
   · subst e; unfold updN; rw [if_pos rfl]; exact M
   · unfold updN; rw [if_neg e]
     exact ((h.maps j hj).keeps K (by simpa using h.ne j i hj h7 e)).mono (by omega)
 · rw [hr j hj]
   refine (h.rows j hj a').keeps K fun g hg hm => ?_
   obtain rfl : g = mb i := by simpa using hm
   obtain ⟨_, cur, hb⟩ := (h.rows j hj a').own hg
   exact (h.maps i h7).not_blk hb rfl
 · by_cases e : j = i
   · subst e
     simp only [updN, if_true]
     by_cases ea : a' = a
     · subst ea; rw [updI_same, updI_same]; rfl
     · rw [updI_other _ _ _ _ ea, updI_other _ _ _ _ ea]; exact h.ones j hj hj7 a'
   · simp only [updN, if_neg e]; exact h.ones j hj hj7 a'
 · rw [hr j hj] at hg
   rw [hr j' hj']
   exact h.ap j j' a' a'' hj hj' hne g hg
theorem LinksAt.setRow (h : LinksAt W F rooms p mb f k m base) {i : Nat} (hi : i < 4) {a : Int} {v' : Value} {xs' : List Int} (K1 : Keeps W W1 ((rowV f i a).ownBlock.toList)) (hv : HRow base W1 v' xs')
   (hfr : v'.ownBlock = (rowV f i a).ownBlock ∨ ∀ g, v'.ownBlock = some g → W.heap.size ≤ g) (K2 : Keeps W1 u [mb i]) (M : MapV u (mb i) (m + 1) (updI (f i) a (some v'))) :
   LinksAt u (v'.ownBlock.toList ++ F) rooms p mb (updN f i (updI (f i) a (some v'))) ⟨updN k.rows i (updI (k.rows i) a xs'), k.ones⟩ (m + 1) base := by
 have hi7 : i < 7 := by omega
 have hM1 : ∀ j, j < 7 → ∀ g, (rowV f i a).ownBlock = some g → mb j ≠ g := fun j hj g hg => by
   obtain ⟨_, cur, hb⟩ := (h.rows i hi a).own hg
   exact ((h.maps j hj).not_blk hb).symm
 have maps1 : ∀ j, j < 7 → MapV W1 (mb j) m (f j) := fun j hj => (h.maps j hj).keeps K1 fun hm => hM1 j hj _ (by simpa using hm) rfl
 have hnew : ∀ g, v'.ownBlock = some g → g ∈ F ∨ W.heap.size ≤ g := fun g hg => by
   rcases hfr with e | e
   · exact .inl (h.inR i hi a g (by rw [← e]; exact hg))
   · exact .inr (e g hg)
 have hp : p < W.heap.size := h.blk.lt
 have same : ∀ a', a' = a → rowV (updN f i (updI (f i) a (some v'))) i a' = v' := fun a' e => by
   subst e; simp [rowV, updN, updI]
 have oth : ∀ j a', (j ≠ i ∨ a' ≠ a) → rowV (updN f i (updI (f i) a (some v'))) j a' = rowV f j a' := fun j a' hne => by
   unfold rowV updN
   by_cases e : j = i
   · subst e
     rw [if_pos rfl, updI_other _ _ _ _ (by rcases hne with h | h; exact absurd rfl h; exact h)]
   · rw [if_neg e]
 have keep : ∀ j a', j < 4 → (j ≠ i ∨ a' ≠ a) → HRow base u (rowV f j a') (k.rows j a') := fun j a' hj hne => by
   have h1 := (h.rows j hj a').keeps K1 fun g hg hm => by
     have hm' : (rowV f i a).ownBlock = some g := by simpa using hm
     exact h.ap j i a' a hj hi hne g hg hm'
   refine h1.keeps K2 fun g hg hm => ?_
   obtain rfl : g = mb i := by simpa using hm
   obtain ⟨_, cur, hb⟩ := h1.own hg
   exact (maps1 i hi7).not_blk hb rfl
 have hvu : HRow base u v' xs' := hv.keeps K2 fun g hg hm => by
   obtain rfl : g = mb i := by simpa using hm
   obtain ⟨_, cur, hb⟩ := hv.own hg
   exact (maps1 i hi7).not_blk hb rfl
 refine ⟨(h.blk.keeps K1 fun hm => h.pF (h.inR i hi a p (by simpa using hm))).keeps K2 fun hm => ?_, fun j hj => ?_, fun j hj a' => ?_, fun j hj hj7 a' => ?_, h.ne, fun j hj => by simp [h.inM j hj], fun j hj a' g hg => ?_, ?_, fun b hb => ?_, fun j j' a' a'' hj hj' hne g hg => ?_⟩
 · obtain rfl : p = mb i := by simpa using hm
   exact h.pF (h.inM i hi7)
 · by_cases e : j = i
   · subst e; unfold updN; rw [if_pos rfl]; exact M
   · unfold updN; rw [if_neg e]
     exact ((maps1 j hj).keeps K2 (by simpa using h.ne j i hj hi7 e)).mono (by omega)
 · by_cases e : j = i ∧ a' = a
   · obtain ⟨rfl, rfl⟩ := e
     rw [same a' rfl]
     simpa [updN, updI] using hvu
   · have hne : j ≠ i ∨ a' ≠ a := by
       by_cases e1 : j = i
       · exact .inr fun e2 => e ⟨e1, e2⟩
       · exact .inl e1
     rw [oth j a' hne]
     have e3 : (updN k.rows i (updI (k.rows i) a xs')) j a' = k.rows j a' := by
       unfold updN
       by_cases e1 : j = i
       · subst e1
         rw [if_pos rfl, updI_other _ _ _ _ (by rcases hne with h | h; exact absurd rfl h; exact h)]
       · rw [if_neg e1]
     show HRow base u _ ((updN k.rows i (updI (k.rows i) a xs')) j a')
     rw [e3]
     exact keep j a' hj hne
 · simp only [updN, if_neg (show j ≠ i by omega)]
   exact h.ones j hj hj7 a'
 · by_cases e : j = i ∧ a' = a
   · obtain ⟨rfl, rfl⟩ := e
     rw [same a' rfl] at hg
     simp [hg]
   · rw [oth j a' (by
       by_cases e1 : j = i
       · exact .inr fun e2 => e ⟨e1, e2⟩
       · exact .inl e1)] at hg
     exact List.mem_append_right _ (h.inR j hj a' g hg)
 · intro hm
   rcases List.mem_append.1 hm with hm | hm
   · rcases hnew p (by simpa using hm) with h1 | h1
     · exact h.pF h1
     · omega
   · exact h.pF hm
 · rcases List.mem_append.1 hb with hm | hm
   · obtain ⟨hb1, cur, hb2⟩ := hvu.own (g := b) (by simpa using hm)
     exact ⟨hb1, hb2.lt⟩
   · have := h.ltF b hm
     have := K1.size
     have := K2.size
     omega
 · have cross : ∀ g j' a'', v'.ownBlock = some g → j' < 4 → (j' ≠ i ∨ a'' ≠ a) → (rowV f j' a'').ownBlock ≠ some g := fun g j' a'' hg hj' hne e => by
     rcases hfr with e' | e'
     · exact h.ap j' i a'' a hj' hi hne g e (by rw [← e']; exact hg)
     · have h1 := e' g hg
       have h2 := (h.ltF g (h.inR j' hj' a'' g e)).2
       omega
   have dec : ∀ j a', (j = i ∧ a' = a) ∨ (j ≠ i ∨ a' ≠ a) := fun j a' => by
     by_cases e1 : j = i
     · by_cases e2 : a' = a
       · exact .inl ⟨e1, e2⟩
       · exact .inr (.inr e2)
     · exact .inr (.inl e1)
   rcases dec j a' with ⟨rfl, rfl⟩ | e1
   · rcases dec j' a'' with ⟨rfl, rfl⟩ | e2
     · rcases hne with h | h <;> exact absurd rfl h
     · rw [same _ rfl] at hg
       rw [oth _ _ e2]
       exact cross g j' a'' hg hj' e2
   · rcases dec j' a'' with ⟨rfl, rfl⟩ | e2
     · rw [oth _ _ e1] at hg
       rw [same _ rfl]
       intro e
       exact cross g j a' e hj e1 hg
     · rw [oth _ _ e1] at hg
       rw [oth _ _ e2]
       exact h.ap j j' a' a'' hj hj' hne g hg
end
section
variable {w : World} {S : Sys} {A : Option Addr} {c : Nat} {R : Option Addr} {d : Nat}
theorem linksC_cell (rooms : Value) (mb : Nat → Nat) (h : rooms.oneCell' = true) : ∀ v ∈ (linksC rooms mb).toList, v.oneCell' = true := by
 intro v hv
 simp only [linksC, List.mem_cons, List.not_mem_nil, or_false] at hv
 rcases hv with rfl | rfl | rfl | rfl | rfl | rfl | rfl | rfl <;> first | exact h | rfl
set_option maxRecDepth 100000 in
theorem newLinks_any : Calls Try.prog 69 #[.agg (sysV S A c R d)] w fun e W => (∃ p F mb f, e = .returned (.pointer (some ⟨p, 0, none⟩)) ∧ LinksAt W F (.slice R S.nr d) p mb f lk0 0 w.heap.size ∧ w.heap.size ≤ p) ∧ Keeps w W [] := by
 have O := Own.start w []
 go_enter Try.func69, Try.ntmps69
 go_wp2_with (first
   | (refine own_box 1 (sysV S A c R d) O rfl rfl rfl rfl ?_; clear O; intro W a1 O; simp only [Act.put, kA, kZ, kS]; have c1 : W.cell? ⟨a1, 1, none⟩ = some (.slice R S.nr d) := (O.get 0 rfl).cell 1)
   | (refine at_dst 5 rfl ?_; have HW := O.keep.size; refine own_makeMapV 5 O rfl rfl rfl ?_; clear O; intro W b5 O Kx M5 hb; have z5 : w.heap.size ≤ b5 := Nat.le_trans HW hb; clear HW Kx hb c1; simp only [Act.put, kA, kZ, kS])
   | (refine at_dst 6 rfl ?_; have HW := O.keep.size; refine own_makeMapV 6 O rfl rfl rfl ?_; clear O; intro W b6 O Kx M6 hb; have n5_6 : b5 < b6 := Nat.lt_of_lt_of_le M5.lt hb; replace M5 := M5.keeps Kx (by simp); have z6 : w.heap.size ≤ b6 := Nat.le_trans HW hb; clear HW Kx hb; simp only [Act.put, kA, kZ, kS])
   | (refine at_dst 7 rfl ?_; have HW := O.keep.size; refine own_makeMapV 7 O rfl rfl rfl ?_; clear O; intro W b7 O Kx M7 hb; have n5_7 : b5 < b7 := Nat.lt_of_lt_of_le M5.lt hb; replace M5 := M5.keeps Kx (by simp); have n6_7 : b6 < b7 := Nat.lt_of_lt_of_le M6.lt hb; replace M6 := M6.keeps Kx (by simp); have z7 : w.heap.size ≤ b7 := Nat.le_trans HW hb; clear HW Kx hb; simp only [Act.put, kA, kZ, kS])
   | (refine at_dst 8 rfl ?_; have HW := O.keep.size; refine own_makeMapV 8 O rfl rfl rfl ?_; clear O; intro W b8 O Kx M8 hb; have n5_8 : b5 < b8 := Nat.lt_of_lt_of_le M5.lt hb; replace M5 := M5.keeps Kx (by simp); have n6_8 : b6 < b8 := Nat.lt_of_lt_of_le M6.lt hb; replace M6 := M6.keeps Kx (by simp); have n7_8 : b7 < b8 := Nat.lt_of_lt_of_le M7.lt hb; replace M7 := M7.keeps Kx (by simp); have z8 : w.heap.size ≤ b8 := Nat.le_trans HW hb; clear HW Kx hb; simp only [Act.put, kA, kZ, kS])
   | (refine at_dst 9 rfl ?_; have HW := O.keep.size; refine own_makeMapV 9 O rfl rfl rfl ?_; clear O; intro W b9 O Kx M9 hb; have n5_9 : b5 < b9 := Nat.lt_of_lt_of_le M5.lt hb; replace M5 := M5.keeps Kx (by simp); have n6_9 : b6 < b9 := Nat.lt_of_lt_of_le M6.lt hb; replace M6 := M6.keeps Kx (by simp); have n7_9 : b7 < b9 := Nat.lt_of_lt_of_le M7.lt hb; replace M7 := M7.keeps Kx (by simp); have n8_9 : b8 < b9 := Nat.lt_of_lt_of_le M8.lt hb; replace M8 := M8.keeps Kx (by simp); have z9 : w.heap.size ≤ b9 := Nat.le_trans HW hb; clear HW Kx hb; simp only [Act.put, kA, kZ, kS])
   | (refine at_dst 10 rfl ?_; have HW := O.keep.size; refine own_makeMapV 10 O rfl rfl rfl ?_; clear O; intro W b10 O Kx M10 hb; have n5_10 : b5 < b10 := Nat.lt_of_lt_of_le M5.lt hb; replace M5 := M5.keeps Kx (by simp); have n6_10 : b6 < b10 := Nat.lt_of_lt_of_le M6.lt hb; replace M6 := M6.keeps Kx (by simp); have n7_10 : b7 < b10 := Nat.lt_of_lt_of_le M7.lt hb; replace M7 := M7.keeps Kx (by simp); have n8_10 : b8 < b10 := Nat.lt_of_lt_of_le M8.lt hb; replace M8 := M8.keeps Kx (by simp); have n9_10 : b9 < b10 := Nat.lt_of_lt_of_le M9.lt hb; replace M9 := M9.keeps Kx (by simp); have z10 : w.heap.size ≤ b10 := Nat.le_trans HW hb; clear HW Kx hb; simp only [Act.put, kA, kZ, kS])
   | (refine at_dst 11 rfl ?_; have HW := O.keep.size; refine own_makeMapV 11 O rfl rfl rfl ?_; clear O; intro W b11 O Kx M11 hb; have n5_11 : b5 < b11 := Nat.lt_of_lt_of_le M5.lt hb; replace M5 := M5.keeps Kx (by simp); have n6_11 : b6 < b11 := Nat.lt_of_lt_of_le M6.lt hb; replace M6 := M6.keeps Kx (by simp); have n7_11 : b7 < b11 := Nat.lt_of_lt_of_le M7.lt hb; replace M7 := M7.keeps Kx (by simp); have n8_11 : b8 < b11 := Nat.lt_of_lt_of_le M8.lt hb; replace M8 := M8.keeps Kx (by simp); have n9_11 : b9 < b11 := Nat.lt_of_lt_of_le M9.lt hb; replace M9 := M9.keeps Kx (by simp); have n10_11 : b10 < b11 := Nat.lt_of_lt_of_le M10.lt hb; replace M10 := M10.keeps Kx (by simp); have z11 : w.heap.size ≤ b11 := Nat.le_trans HW hb; clear HW Kx hb; simp only [Act.put, kA, kZ, kS])
   | (refine wpList_const 12 (.agg (linksC (.slice R S.nr d) fun i => [b7, b8, b10, b11, b5, b6, b9].getD i 0)) rfl rfl (fun _ => by kernel_rfl) ?_; simp only [Act.put, kA, kZ, kS])
   | (refine at_dst 13 rfl ?_; have HW := O.keep.size; refine own_boxK 13 (linksC (.slice R S.nr d) fun i => [b7, b8, b10, b11, b5, b6, b9].getD i 0) O rfl rfl rfl rfl ?_; intro u p O2 Kx hp; simp only [Act.put, kA, kZ, kS])
   | go_big_skip)
 have nd : [b7, b8, b10, b11, b5, b6, b9].Nodup := by
   simp only [List.nodup_cons, List.mem_cons, List.not_mem_nil, or_false, not_or, List.nodup_nil, and_true, not_false_eq_true]
   omega
 have hlt : ∀ b ∈ [b7, b8, b10, b11, b5, b6, b9], w.heap.size ≤ b ∧ b < W.heap.size := by
   have := M5.lt; have := M6.lt; have := M7.lt; have := M8.lt; have := M9.lt; have := M10.lt; have := M11.lt
   intro b hb
   simp only [List.mem_cons, List.not_mem_nil, or_false] at hb
   omega
 go_ret
 refine ⟨⟨p, [b7, b8, b10, b11, b5, b6, b9], _, fun _ _ => none, rfl, ⟨O2.get 0 rfl, fun i hi => ?_, fun i _ a => HRow.nil _ _, fun i _ _ a => rfl, fun i i' hi hi' hne e => ?_, fun i hi => ?_, fun i _ a g hg => (by cases hg), fun hm => ?_, fun b hb => ?_, fun i i' a a' _ _ _ g hg => (by cases hg)⟩, Nat.le_trans HW hp⟩, O2.keep⟩
 · match i, hi with
   | 0, _ => exact M7.keeps Kx (by simp)
   | 1, _ => exact M8.keeps Kx (by simp)
   | 2, _ => exact M10.keeps Kx (by simp)
   | 3, _ => exact M11.keeps Kx (by simp)
   | 4, _ => exact M5.keeps Kx (by simp)
   | 5, _ => exact M6.keeps Kx (by simp)
   | 6, _ => exact M9.keeps Kx (by simp)
 · have hp := List.pairwise_iff_getElem.1 nd
   simp only [List.getD_eq_getElem?_getD, List.getElem?_eq_getElem (show i < [b7, b8, b10, b11, b5, b6, b9].length from hi), List.getElem?_eq_getElem (show i' < [b7, b8, b10, b11, b5, b6, b9].length from hi'), Option.getD_some] at e
   rcases Nat.lt_or_gt_of_ne hne with h | h
   · exact hp i i' hi hi' h e
   · exact hp i' i hi' hi h e.symm
 · simp only [List.getD_eq_getElem?_getD, List.getElem?_eq_getElem (show i < [b7, b8, b10, b11, b5, b6, b9].length from hi), Option.getD_some]
   exact List.getElem_mem _
 · have := hlt p hm
   omega
 · have := hlt b hb
   have := Kx.size
   omega
end
end Go.Proofs.Ytakmcpadkanggaa
namespace Go.Proofs
open Go.Shelf
def Try.lays128_ren : Go.Shelf.Ren := ⟨fun | 128 => 121 | n => n, fun | 51 => 196 | 3 => 3 | 4 => 4 | 46 => 184 | 5 => 5 | 9 => 9 | n => n, fun | n => n⟩
theorem Try.lays128 : Go.Proofs.Lays.n128 Try.prog Try.lays128_ren := {
 mixed := by kernel_rfl
 f128 := Try.func121.trans (congrArg some (by kernel_rfl))
 t3 := Try.underlying3
 a3 := Try.isAgg3
 z3 := Try.sizeOf3
 v3 := Try.zeroValue3
 t4 := Try.underlying4
 a4 := Try.isAgg4
 z4 := Try.sizeOf4
 v4 := Try.zeroValue4
 t5 := Try.underlying5
 a5 := Try.isAgg5
 z5 := Try.sizeOf5
 v5 := Try.zeroValue5
 t9 := Try.underlying9
 a9 := Try.isAgg9
 z9 := Try.sizeOf9
 v9 := Try.zeroValue9
 t46 := Try.underlying184
 a46 := Try.isAgg184
 z46 := Try.sizeOf184
 v46 := Try.zeroValue184
 t51 := Try.underlying196
 a51 := Try.isAgg196
 z51 := Try.sizeOf196
 v51 := Try.zeroValue196 }
theorem Try.bits_Len32 (x : Int) (w : World) (h0 : 0 ≤ x) (h1 : x ≤ 4294967295) :
   Calls Try.prog 121 #[.int .u32 x] w fun e w' => e = .returned (.int .i64 (Lib.bitLen x.toNat)) ∧ w' = w := Any.bits_Len32 Try.lays128 x w h0 h1
def Try.lays125_ren : Go.Shelf.Ren := ⟨fun | 125 => 111 | 128 => 121 | 129 => 122 | n => n, fun | 46 => 184 | 3 => 3 | 51 => 196 | 53 => 198 | 4 => 4 | 5 => 5 | 9 => 9 | n => n, fun | n => n⟩
theorem Try.lays125 : Go.Proofs.Lays.n125 Try.prog Try.lays125_ren := {
 mixed := by kernel_rfl
 f125 := Try.func111.trans (congrArg some (by kernel_rfl))
 f128 := Try.func121.trans (congrArg some (by kernel_rfl))
 f129 := Try.func122.trans (congrArg some (by kernel_rfl))
 t3 := Try.underlying3
 a3 := Try.isAgg3
 z3 := Try.sizeOf3
 v3 := Try.zeroValue3
 t4 := Try.underlying4
 a4 := Try.isAgg4
 z4 := Try.sizeOf4
 v4 := Try.zeroValue4
 t5 := Try.underlying5
 a5 := Try.isAgg5
 z5 := Try.sizeOf5
 v5 := Try.zeroValue5
 t9 := Try.underlying9
 a9 := Try.isAgg9
 z9 := Try.sizeOf9
 v9 := Try.zeroValue9
 t46 := Try.underlying184
 a46 := Try.isAgg184
 z46 := Try.sizeOf184
 v46 := Try.zeroValue184
 t51 := Try.underlying196
 a51 := Try.isAgg196
 z51 := Try.sizeOf196
 v51 := Try.zeroValue196
 t53 := Try.underlying198
 a53 := Try.isAgg198
 z53 := Try.sizeOf198
 v53 := Try.zeroValue198 }
theorem Try.bits_Len (x : Int) (w : World) (h0 : 0 ≤ x) (h1 : x ≤ 18446744073709551615) :
   Calls Try.prog 111 #[.int .u64 x] w fun e w' => e = .returned (.int .i64 (Lib.bitLen x.toNat)) ∧ w' = w := Any.bits_Len Try.lays125 x w h0 h1
def Try.lays215_ren : Go.Shelf.Ren := ⟨fun | 215 => 128 | n => n, fun | 3 => 3 | 4 => 4 | n => n, fun | n => n⟩
theorem Try.lays215 : Go.Proofs.Lays.n215 Try.prog Try.lays215_ren := {
 mixed := by kernel_rfl
 f215 := Try.func128.trans (congrArg some (by kernel_rfl))
 t3 := Try.underlying3
 a3 := Try.isAgg3
 z3 := Try.sizeOf3
 v3 := Try.zeroValue3
 t4 := Try.underlying4
 a4 := Try.isAgg4
 z4 := Try.sizeOf4
 v4 := Try.zeroValue4 }
open Go.RowKit in
theorem Try.cmp_isNaN_int (x : Int) (w : World) :
   Calls Try.prog 128 #[.int .i64 x] w fun e w' => e = .returned (.bool false) ∧ w' = w := Any.cmp_isNaN_int Try.lays215 x w
def Try.lays129_ren : Go.Shelf.Ren := ⟨fun | 129 => 122 | n => n, fun | 53 => 198 | 3 => 3 | 4 => 4 | 46 => 184 | 5 => 5 | 9 => 9 | n => n, fun | n => n⟩
theorem Try.lays129 : Go.Proofs.Lays.n129 Try.prog Try.lays129_ren := {
 mixed := by kernel_rfl
 f129 := Try.func122.trans (congrArg some (by kernel_rfl))
 t3 := Try.underlying3
 a3 := Try.isAgg3
 z3 := Try.sizeOf3
 v3 := Try.zeroValue3
 t4 := Try.underlying4
 a4 := Try.isAgg4
 z4 := Try.sizeOf4
 v4 := Try.zeroValue4
 t5 := Try.underlying5
 a5 := Try.isAgg5
 z5 := Try.sizeOf5
 v5 := Try.zeroValue5
 t9 := Try.underlying9
 a9 := Try.isAgg9
 z9 := Try.sizeOf9
 v9 := Try.zeroValue9
 t46 := Try.underlying184
 a46 := Try.isAgg184
 z46 := Try.sizeOf184
 v46 := Try.zeroValue184
 t53 := Try.underlying198
 a53 := Try.isAgg198
 z53 := Try.sizeOf198
 v53 := Try.zeroValue198 }
theorem Try.bits_Len64 (x : Int) (w : World) (h0 : 0 ≤ x) (h1 : x ≤ 18446744073709551615) :
   Calls Try.prog 122 #[.int .u64 x] w fun e w' => e = .returned (.int .i64 (Lib.bitLen x.toNat)) ∧ w' = w := Any.bits_Len64 Try.lays129 x w h0 h1
def Try.lays189_ren : Go.Shelf.Ren := ⟨fun | 189 => 95 | 125 => 111 | 257 => 110 | 128 => 121 | 129 => 122 | 294 => 112 | 295 => 113 | 296 => 114 | 297 => 115 | 298 => 116 | 299 => 117 | 216 => 118 | 300 => 119 | 301 => 120 | 328 => 123 | 329 => 124 | 330 => 125 | 331 => 126 | 332 => 127 | 215 => 128 | 343 => 129 | n => n, fun | 28 => 25 | 3 => 3 | 46 => 184 | 0 => 0 | 51 => 196 | 53 => 198 | 4 => 4 | 183 => 190 | 182 => 189 | 131 => 139 | 5 => 5 | 9 => 9 | 218 => 199 | 222 => 203 | 228 => 205 | 229 => 113 | n => n, fun | n => n⟩
theorem Try.lays189 : Go.Proofs.Lays.n189 Try.prog Try.lays189_ren := {
 mixed := by kernel_rfl
 f125 := Try.func111.trans (congrArg some (by kernel_rfl))
 f128 := Try.func121.trans (congrArg some (by kernel_rfl))
 f129 := Try.func122.trans (congrArg some (by kernel_rfl))
 f189 := Try.func95.trans (congrArg some (by kernel_rfl))
 f215 := Try.func128.trans (congrArg some (by kernel_rfl))
 f216 := Try.func118.trans (congrArg some (by kernel_rfl))
 f257 := Try.func110.trans (congrArg some (by kernel_rfl))
 f294 := Try.func112.trans (congrArg some (by kernel_rfl))
 f295 := Try.func113.trans (congrArg some (by kernel_rfl))
 f296 := Try.func114.trans (congrArg some (by kernel_rfl))
 f297 := Try.func115.trans (congrArg some (by kernel_rfl))
 f298 := Try.func116.trans (congrArg some (by kernel_rfl))
 f299 := Try.func117.trans (congrArg some (by kernel_rfl))
 f300 := Try.func119.trans (congrArg some (by kernel_rfl))
 f301 := Try.func120.trans (congrArg some (by kernel_rfl))
 f328 := Try.func123.trans (congrArg some (by kernel_rfl))
 f329 := Try.func124.trans (congrArg some (by kernel_rfl))
 f330 := Try.func125.trans (congrArg some (by kernel_rfl))
 f331 := Try.func126.trans (congrArg some (by kernel_rfl))
 f332 := Try.func127.trans (congrArg some (by kernel_rfl))
 f343 := Try.func129.trans (congrArg some (by kernel_rfl))
 t0 := Try.underlying0
 a0 := Try.isAgg0
 z0 := Try.sizeOf0
 v0 := Try.zeroValue0
 t3 := Try.underlying3
 a3 := Try.isAgg3
 z3 := Try.sizeOf3
 v3 := Try.zeroValue3
 t4 := Try.underlying4
 a4 := Try.isAgg4
 z4 := Try.sizeOf4
 v4 := Try.zeroValue4
 t5 := Try.underlying5
 a5 := Try.isAgg5
 z5 := Try.sizeOf5
 v5 := Try.zeroValue5
 t9 := Try.underlying9
 a9 := Try.isAgg9
 z9 := Try.sizeOf9
 v9 := Try.zeroValue9
 t28 := Try.underlying25
 a28 := Try.isAgg25
 z28 := Try.sizeOf25
 v28 := Try.zeroValue25
 t46 := Try.underlying184
 a46 := Try.isAgg184
 z46 := Try.sizeOf184
 v46 := Try.zeroValue184
 t51 := Try.underlying196
 a51 := Try.isAgg196
 z51 := Try.sizeOf196
 v51 := Try.zeroValue196
 t53 := Try.underlying198
 a53 := Try.isAgg198
 z53 := Try.sizeOf198
 v53 := Try.zeroValue198
 t131 := Try.underlying139
 a131 := Try.isAgg139
 z131 := Try.sizeOf139
 v131 := Try.zeroValue139
 t182 := Try.underlying189
 a182 := Try.isAgg189
 z182 := Try.sizeOf189
 v182 := Try.zeroValue189
 t183 := Try.underlying190
 a183 := Try.isAgg190
 z183 := Try.sizeOf190
 v183 := Try.zeroValue190
 t218 := Try.underlying199
 a218 := Try.isAgg199
 z218 := Try.sizeOf199
 v218 := Try.zeroValue199
 t222 := Try.underlying203
 a222 := Try.isAgg203
 z222 := Try.sizeOf203
 v222 := Try.zeroValue203
 t228 := Try.underlying205
 a228 := Try.isAgg205
 z228 := Try.sizeOf205
 v228 := Try.zeroValue205
 t229 := Try.underlying113
 a229 := Try.isAgg113
 z229 := Try.sizeOf113
 v229 := Try.zeroValue113 }
open Go.Sort Go.RowKit in
theorem Try.slices_Sort_int (blk off cap : Nat) (zs : List Int) (w : World) (hH : Holds (Value.int .i64) w blk off zs.toArray) (hblk : blk < w.heap.size) (hsz : zs.length < 4611686018427387904) :
   Calls Try.prog 95 #[.slice (some ⟨blk, off, none⟩) zs.length cap] w fun e w' =>
     e = .returned (.tuple #[]) ∧ ∃ n os, w' = grow (putRow (Value.int .i64) (Sort.ahead w n) blk off (zs.mergeSort fun x y => decide (x ≤ y)).toArray) os := Any.slices_Sort_int Try.lays189 blk off cap zs w hH hblk hsz
def Try.lays108_ren : Go.Shelf.Ren := ⟨fun | 108 => 102 | n => n, fun | 28 => 25 | 3 => 3 | 0 => 0 | 4 => 4 | n => n, fun | n => n⟩
theorem Try.lays108 : Go.Proofs.Lays.n108 Try.prog Try.lays108_ren := {
 mixed := by kernel_rfl
 f108 := Try.func102.trans (congrArg some (by kernel_rfl))
 t0 := Try.underlying0
 a0 := Try.isAgg0
 z0 := Try.sizeOf0
 v0 := Try.zeroValue0
 t3 := Try.underlying3
 a3 := Try.isAgg3
 z3 := Try.sizeOf3
 v3 := Try.zeroValue3
 t4 := Try.underlying4
 a4 := Try.isAgg4
 z4 := Try.sizeOf4
 v4 := Try.zeroValue4
 t28 := Try.underlying25
 a28 := Try.isAgg25
 z28 := Try.sizeOf25
 v28 := Try.zeroValue25 }
open Go.Lib in
theorem Try.slices_Index_int (b off n c : Nat) (zs : List Int) (x : Int) (w : World) (hz : n ≤ zs.length) (hbig : n ≤ 9223372036854775807) (hc : ∀ j, j < zs.length → w.cell? ⟨b, off + j, none⟩ = some (.int .i64 (zs.getD j 0))) :
   Calls Try.prog 102 #[.slice (some ⟨b, off, none⟩) n c, .int .i64 x] w fun e w' => e = .returned (.int .i64 (Lib.idxOf (zs.take n) x)) ∧ w' = w := Any.slices_Index_int Try.lays108 b off n c zs x w hz hbig hc
open Go.Lib in
theorem Try.slices_Index_int_empty (a : Option Addr) (c : Nat) (x : Int) (w : World) :
   Calls Try.prog 102 #[.slice a 0 c, .int .i64 x] w fun e w' => e = .returned (.int .i64 (Lib.idxOf [] x)) ∧ w' = w := Any.slices_Index_int_empty Try.lays108 a c x w
def Try.lays107_ren : Go.Shelf.Ren := ⟨fun | 107 => 81 | 108 => 102 | n => n, fun | 28 => 25 | 3 => 3 | 4 => 4 | 0 => 0 | n => n, fun | n => n⟩
theorem Try.lays107 : Go.Proofs.Lays.n107 Try.prog Try.lays107_ren := {
 mixed := by kernel_rfl
 f107 := Try.func81.trans (congrArg some (by kernel_rfl))
 f108 := Try.func102.trans (congrArg some (by kernel_rfl))
 t0 := Try.underlying0
 a0 := Try.isAgg0
 z0 := Try.sizeOf0
 v0 := Try.zeroValue0
 t3 := Try.underlying3
 a3 := Try.isAgg3
 z3 := Try.sizeOf3
 v3 := Try.zeroValue3
 t4 := Try.underlying4
 a4 := Try.isAgg4
 z4 := Try.sizeOf4
 v4 := Try.zeroValue4
 t28 := Try.underlying25
 a28 := Try.isAgg25
 z28 := Try.sizeOf25
 v28 := Try.zeroValue25 }
open Go.Lib in
theorem Try.slices_Contains_int (b off n c : Nat) (zs : List Int) (x : Int) (w : World) (hz : n ≤ zs.length) (hbig : n ≤ 9223372036854775807) (hc : ∀ j, j < zs.length → w.cell? ⟨b, off + j, none⟩ = some (.int .i64 (zs.getD j 0))) :
   Calls Try.prog 81 #[.slice (some ⟨b, off, none⟩) n c, .int .i64 x] w fun e w' => e = .returned (.bool ((zs.take n).contains x)) ∧ w' = w := Any.slices_Contains_int Try.lays107 b off n c zs x w hz hbig hc
open Go.Lib in
theorem Try.slices_Contains_int_empty (a : Option Addr) (c : Nat) (x : Int) (w : World) :
   Calls Try.prog 81 #[.slice a 0 c, .int .i64 x] w fun e w' => e = .returned (.bool false) ∧ w' = w := Any.slices_Contains_int_empty Try.lays107 a c x w
def Try.laysNm215_ren : Go.Shelf.Ren := ⟨fun | 15 => 74 | n => n, fun | 22 => 25 | 3 => 3 | 4 => 4 | n => n, fun | n => n⟩
theorem Try.laysNm215 : Go.Proofs.Lays2.n15 Try.prog Try.laysNm215_ren := {
 mixed := by kernel_rfl
 f15 := Try.func74.trans (congrArg some (by kernel_rfl))
 t3 := Try.underlying3
 a3 := Try.isAgg3
 z3 := Try.sizeOf3
 v3 := Try.zeroValue3
 t4 := Try.underlying4
 a4 := Try.isAgg4
 z4 := Try.sizeOf4
 v4 := Try.zeroValue4
 t22 := Try.underlying25
 a22 := Try.isAgg25
 z22 := Try.sizeOf25
 v22 := Try.zeroValue25
 i3 := by kernel_rfl }
open Go.RowKit Go.Lib in
theorem Try.slices_Clone_int (b off n c : Nat) (zs : List Int) (w : World) (hz : n ≤ zs.length) (hbig : n * 8 ≤ 140737488355328) (hc : ∀ j, j < zs.length → w.cell? ⟨b, off + j, none⟩ = some (.int .i64 (zs.getD j 0))) :
   Calls Try.prog 74 #[.slice (some ⟨b, off, none⟩) n c] w fun e w' => ∃ v', e = .returned v' ∧ w'.ownsRow w.heap.size 3 1 v' n ((zs.take n).map (Value.int .i64)) ∧ v' ≠ .slice none 0 0 ∧ Below w.heap.size w w' := Any.slices_Clone_int Try.laysNm215 b off n c zs w hz hbig hc
open Go.RowKit Go.Lib in
theorem Try.slices_Clone_int_nil (n c : Nat) (w : World) :
   Calls Try.prog 74 #[.slice none n c] w fun e w' => e = .returned (.slice none 0 0) ∧ w' = w := Any.slices_Clone_int_nil Try.laysNm215 n c w
open Go.RowKit Go.Lib in
theorem Try.slices_Clone_int_zero (a : Addr) (c : Nat) (w : World) :
   Calls Try.prog 74 #[.slice (some a) 0 c] w fun e w' => ∃ v', e = .returned v' ∧ w'.ownsRow w.heap.size 3 1 v' 0 [] ∧ v' ≠ .slice none 0 0 ∧ Below w.heap.size w w' := Any.slices_Clone_int_zero Try.laysNm215 a c w
def Try.laysNm220_ren : Go.Shelf.Ren := ⟨fun | 20 => 96 | n => n, fun | 22 => 25 | 3 => 3 | 4 => 4 | 0 => 0 | n => n, fun | n => n⟩
theorem Try.laysNm220 : Go.Proofs.Lays2.n20 Try.prog Try.laysNm220_ren := {
 mixed := by kernel_rfl
 f20 := Try.func96.trans (congrArg some (by kernel_rfl))
 t0 := Try.underlying0
 a0 := Try.isAgg0
 z0 := Try.sizeOf0
 v0 := Try.zeroValue0
 t3 := Try.underlying3
 a3 := Try.isAgg3
 z3 := Try.sizeOf3
 v3 := Try.zeroValue3
 t4 := Try.underlying4
 a4 := Try.isAgg4
 z4 := Try.sizeOf4
 v4 := Try.zeroValue4
 t22 := Try.underlying25
 a22 := Try.isAgg25
 z22 := Try.sizeOf25
 v22 := Try.zeroValue25
 i3 := by kernel_rfl }
open Go.RowKit Go.Lib Go.Sort in
theorem Try.slices_Compact_int_arr (blk off cap : Nat) (d : Array Int) (w : World) (hH : Holds encI w blk off d) (hsz : d.size ≤ 9223372036854775807) (hcap : d.size ≤ cap) :
   Calls Try.prog 96 #[.slice (some ⟨blk, off, none⟩) d.size cap] w fun e w' => e = .returned (.slice (some ⟨blk, off, none⟩) (compactUpTo d d.size).length cap) ∧ ∃ q, w' = putRow encI (Sort.ahead w q) blk off (compactUpTo d d.size ++ List.replicate (d.size - (compactUpTo d d.size).length) 0).toArray := Any.slices_Compact_int_arr Try.laysNm220 blk off cap d w hH hsz hcap
open Go.RowKit Go.Lib Go.Sort in
theorem Try.slices_Compact_int (blk off cap : Nat) (zs : List Int) (w : World) (hH : Holds (Value.int .i64) w blk off zs.toArray) (hsz : zs.length ≤ 9223372036854775807) (hcap : zs.length ≤ cap) :
   Calls Try.prog 96 #[.slice (some ⟨blk, off, none⟩) zs.length cap] w fun e w' => e = .returned (.slice (some ⟨blk, off, none⟩) (Lib.compact zs).length cap) ∧ ∃ q, w' = putRow (Value.int .i64) (Sort.ahead w q) blk off (Lib.compact zs ++ List.replicate (zs.length - (Lib.compact zs).length) 0).toArray := Any.slices_Compact_int Try.laysNm220 blk off cap zs w hH hsz hcap
open Go.RowKit Go.Lib Go.Sort in
theorem Try.slices_Compact_int_empty (a : Option Addr) (cap : Nat) (w : World) :
   Calls Try.prog 96 #[.slice a 0 cap] w fun e w' => e = .returned (.slice a 0 cap) ∧ w' = w := Any.slices_Compact_int_empty Try.laysNm220 a cap w
def Try.laysNm237_ren : Go.Shelf.Ren := ⟨fun | 37 => 128 | n => n, fun | 3 => 3 | 4 => 4 | n => n, fun | n => n⟩
theorem Try.laysNm237 : Go.Proofs.Lays2.n37 Try.prog Try.laysNm237_ren := {
 mixed := by kernel_rfl
 f37 := Try.func128.trans (congrArg some (by kernel_rfl))
 t3 := Try.underlying3
 a3 := Try.isAgg3
 z3 := Try.sizeOf3
 v3 := Try.zeroValue3
 t4 := Try.underlying4
 a4 := Try.isAgg4
 z4 := Try.sizeOf4
 v4 := Try.zeroValue4 }
open Go.RowKit Go.Lib in
theorem Try.cmp_isNaN_int2 (x : Int) (w : World) :
   Calls Try.prog 128 #[.int .i64 x] w fun e w' => e = .returned (.bool false) ∧ w' = w := Any.cmp_isNaN_int2 Try.laysNm237 x w
def Try.laysNm231_ren : Go.Shelf.Ren := ⟨fun | 31 => 118 | 37 => 128 | n => n, fun | 3 => 3 | 4 => 4 | n => n, fun | n => n⟩
theorem Try.laysNm231 : Go.Proofs.Lays2.n31 Try.prog Try.laysNm231_ren := {
 mixed := by kernel_rfl
 f31 := Try.func118.trans (congrArg some (by kernel_rfl))
 f37 := Try.func128.trans (congrArg some (by kernel_rfl))
 t3 := Try.underlying3
 a3 := Try.isAgg3
 z3 := Try.sizeOf3
 v3 := Try.zeroValue3
 t4 := Try.underlying4
 a4 := Try.isAgg4
 z4 := Try.sizeOf4
 v4 := Try.zeroValue4 }
open Go.RowKit Go.Lib in
theorem Try.cmp_Less_int2 (x y : Int) (w : World) :
   Calls Try.prog 118 #[.int .i64 x, .int .i64 y] w fun e w' => e = .returned (.bool (decide (x < y))) ∧ w' = w := Any.cmp_Less_int2 Try.laysNm231 x y w
open Go.RowKit Go.Lib Go.Sort in
theorem Try.slices_Compact_int_cells (b off n c : Nat) (zs : List Int) (w : World) (hz : n ≤ zs.length) (hbig : n ≤ 9223372036854775807) (hcap : n ≤ c) (hc : ∀ j, j < zs.length → w.cell? ⟨b, off + j, none⟩ = some (.int .i64 (zs.getD j 0))) (hf : ∀ j, j < n → w.frozen? ⟨b, off + j, none⟩ = false) :
   Calls Try.prog 96 #[.slice (some ⟨b, off, none⟩) n c] w fun e w' => e = .returned (.slice (some ⟨b, off, none⟩) (Lib.compact (zs.take n)).length c) ∧ ∃ q, w' = (w.drewN q).setCells b off ((Lib.compact (zs.take n) ++ List.replicate (n - (Lib.compact (zs.take n)).length) 0).map (Value.int .i64)) := Any.slices_Compact_int_cells Try.laysNm220 b off n c zs w hz hbig hcap hc hf
open Go.RowKit Go.Sort in
theorem Try.slices_Sort_int_none (p : Option Addr) (cap : Nat) (w : World) :
   Calls Try.prog 95 #[.slice p 0 cap] w fun e w' => e = .returned (.tuple #[]) ∧ w' = w := Any.slices_Sort_int_none Try.lays189 p cap w
def Try.laysSlE041_f74_ren : Go.Shelf.Ren := ⟨fun | 41 => 74 | n => n, fun | 22 => 25 | 23 => 3 | 4 => 4 | n => n, fun | n => n⟩
theorem Try.laysSlE041_f74 : Go.Proofs.SlLaysE0.n41 Try.prog Try.laysSlE041_f74_ren := {
 mixed := by kernel_rfl
 f41 := ⟨Try.f74.name, by decide, Try.func74.trans (congrArg some (by kernel_rfl))⟩
 t4 := Try.underlying4
 a4 := Try.isAgg4
 z4 := Try.sizeOf4
 v4 := Try.zeroValue4
 t22 := Try.underlying25
 a22 := Try.isAgg25
 z22 := Try.sizeOf25
 v22 := Try.zeroValue25 }
open Go.RowKit Go.Lib in
theorem Try.slices_Clone (i0 : TypeInfo) (z : Value) (size bytes : Nat) (hi : Try.prog.info? 3 = some i0) (hz0 : i0.zero = some z) (hz1 : i0.size = size) (hz2 : i0.bytes = bytes) (hzs : z.cells.size = size) (hsz : 0 < size) (z23 : ∀ w, (Go.sizeOf 3).run Try.prog w = .ok size w) (b off n c : Nat) (news : List Value) (w : World) (hl : news.length = n * size) (hn : n ≤ maxLen) (hbig : n * bytes ≤ 140737488355328) (hc : ∀ j u, news[j]? = some u → w.cell? ⟨b, off + j, none⟩ = some u) (h1 : ∀ u ∈ news, u.oneCell' = true) :
   Calls Try.prog 74 #[.slice (some ⟨b, off, none⟩) n c] w fun e w' => ∃ v', e = .returned v' ∧ w'.ownsRow w.heap.size 3 size v' n news ∧ v' ≠ .slice none 0 0 ∧ Below w.heap.size w w' := AnyE.slices_Clone Try.laysSlE041_f74 i0 z size bytes hi hz0 hz1 hz2 hzs hsz z23 b off n c news w hl hn hbig hc h1
open Go.RowKit Go.Lib in
theorem Try.slices_Clone_nil (n c : Nat) (w : World) :
   Calls Try.prog 74 #[.slice none n c] w fun e w' => e = .returned (.slice none 0 0) ∧ w' = w := AnyE.slices_Clone_nil Try.laysSlE041_f74 n c w
end Go.Proofs
namespace Go.Proofs.Ytakmcpadkanggaa
open Go.RowKit Go.Maps Go.Deep Go.Lib Go.Sort
section
variable {W u : World} {g off base : Nat} {cur : Array Value} {d : Array Int} {v : Value} {xs : List Int}
abbrev encI64 : Int → Value := Value.int .i64
theorem keeps_ahead (n : Nat) : Keeps W (Sort.ahead W n) [] := ⟨rfl, rfl, rfl, Nat.le_refl _, fun _ _ _ => rfl⟩
theorem keeps_grow (os : Array Obj) : Keeps W (grow W os) [] := by
 refine ⟨rfl, rfl, rfl, by simp [grow], fun b hb _ => ?_⟩
 show (W.heap ++ os)[b]? = _
 rw [Array.getElem?_append_left hb]
theorem keeps_putRow : Keeps W (putRow encI64 W g off d) [g] := by
 refine ⟨rfl, rfl, rfl, by simp, fun b hb hn => ?_⟩
 show (W.heap.modify g _)[b]? = _
 rw [Array.getElem?_modify, if_neg (by simp at hn; omega)]
theorem blk_putRow {t : TypeId} (h : Blk W g t cur) : Blk (putRow encI64 W g off d) g t (putCells encI64 off d cur) := by
 unfold Blk at *
 show (W.heap.modify g _)[g]? = _
 rw [Array.getElem?_modify, if_pos rfl, h]
 rfl
theorem putCells_size : (putCells encI64 off d cur).size = cur.size := by simp [putCells]
theorem putCells_get {j : Nat} (hj : j < d.size) (hc : off + j < cur.size) : (putCells encI64 off d cur)[off + j]? = some (.int .i64 d[j]!) := by
 unfold putCells
 rw [Array.getElem?_mapIdx, Array.getElem?_eq_getElem hc]
 simp [hj]
theorem holds_row {_cap : Nat} (hB : Blk W g 3 cur) (h : ∀ j, j < xs.length → cur[off + j]? = some (.int .i64 (xs.getD j 0))) : Holds encI64 W g off xs.toArray := by
 intro j hj
 have hj' : j < xs.length := by simpa using hj
 refine ⟨?_, frozen_of_row W g (off + j) cur 3 hB⟩
 rw [hB.cell, h j hj']
 simp [encI64, List.getD_eq_getElem?_getD, hj', getElem!_pos]
theorem Mint.hrow (h : Mint base W v xs) : HRow base W v xs := by
 obtain ⟨h0, ⟨rfl, hn⟩ | ⟨g, cap, cur, rfl, hb, hB, hle, hm, hs, ht⟩⟩ := h
 · exact .inl ⟨rfl, List.eq_nil_of_length_eq_zero hn⟩
 · refine .inr ⟨g, 0, cap, cur, rfl, hb, hB, hle, hm, by omega, fun j hj => ?_⟩
   have h1 : (cur.toList.take (xs.length * 1))[j]? = (xs.map fun x => Value.int .i64 x)[j]? := by rw [ht]
   rw [List.getElem?_take, if_pos (by omega), Array.getElem?_toList] at h1
   rw [Nat.zero_add, h1]
   simp [List.getD_eq_getElem?_getD, hj]
theorem hrow_putRow {cap : Nat} {ys : List Int} (hb : base ≤ g) (hB : Blk W g 3 cur) (hle : ys.length ≤ cap) (hm : cap ≤ maxLen) (hs : off + cap ≤ cur.size) (hd : ys.length ≤ d.size) (hdc : d.size ≤ cap) (hy : ∀ j, j < ys.length → d[j]! = ys.getD j 0) : HRow base (putRow encI64 W g off d) (.slice (some ⟨g, off, none⟩) ys.length cap) ys :=
 .inr ⟨g, off, cap, _, rfl, hb, blk_putRow hB, hle, hm, by rw [putCells_size]; exact hs, fun j hj => by rw [putCells_get (by omega) (by omega), hy j hj]⟩
set_option maxRecDepth 100000 in
theorem sort_mint (h : HRow base W v xs) (hn : xs.length ≤ 1000000) : Calls Try.prog 95 #[v] W fun e u => e = .returned (.tuple #[]) ∧ HRow base u v (xs.mergeSort fun x y => decide (x ≤ y)) ∧ Keeps W u v.ownBlock.toList := by
 rcases h with ⟨rfl, rfl⟩ | ⟨g, off, cap, cur, rfl, hb, hB, hle, hm, hs, hx⟩
 · refine (Try.slices_Sort_int_none none 0 W).mono ?_
   rintro e u ⟨rfl, rfl⟩
   exact ⟨rfl, .inl ⟨rfl, by simp⟩, Keeps.refl _ _⟩
 · refine (Try.slices_Sort_int g off cap xs W (holds_row (_cap := cap) hB hx) hB.lt (by omega)).mono ?_
   rintro e u ⟨rfl, n, os, rfl⟩
   have hl : (xs.mergeSort fun x y => decide (x ≤ y)).length = xs.length := List.length_mergeSort _
   have hB' : Blk (Sort.ahead W n) g 3 cur := hB
   have h1 := hrow_putRow (base := base) (cap := cap) (d := (xs.mergeSort fun x y => decide (x ≤ y)).toArray) (ys := xs.mergeSort fun x y => decide (x ≤ y)) hb hB' (by omega) hm hs (by simp) (by simp; omega) (fun j hj => by simp [List.getD_eq_getElem?_getD])
   rw [hl] at h1
   refine ⟨rfl, HRow.keeps h1 (keeps_grow os) (by simp), ?_⟩
   exact (((keeps_ahead n).wide (L' := [g]) (by simp)).trans (keeps_putRow (W := Sort.ahead W n) (g := g) (off := off)) (fun b hb _ => hb)).trans (keeps_grow os) (by simp)
theorem compact_length (zs : List Int) : (Lib.compact zs).length ≤ zs.length := by
 unfold Lib.compact compactUpTo
 rw [List.length_map]
 refine Nat.le_trans (List.length_filter_le _ _) (by simp)
set_option maxRecDepth 100000 in
theorem compact_row (h : HRow base W v xs) (hn : xs.length ≤ 1000000) : Calls Try.prog 96 #[v] W fun e u => ∃ v', e = .returned v' ∧ v'.ownBlock = v.ownBlock ∧ HRow base u v' (Lib.compact xs) ∧ Keeps W u v.ownBlock.toList := by
 rcases h with ⟨rfl, rfl⟩ | ⟨g, off, cap, cur, rfl, hb, hB, hle, hm, hs, hx⟩
 · refine (Try.slices_Compact_int_empty none 0 W).mono ?_
   rintro e u ⟨rfl, rfl⟩
   exact ⟨_, rfl, rfl, .inl ⟨rfl, by simp [Lib.compact, compactUpTo]⟩, Keeps.refl _ _⟩
 · refine (Try.slices_Compact_int g off cap xs W (holds_row (_cap := cap) hB hx) (by omega) hle).mono ?_
   rintro e u ⟨rfl, q, rfl⟩
   have hl := compact_length xs
   have hB' : Blk (Sort.ahead W q) g 3 cur := hB
   have h1 := hrow_putRow (base := base) (cap := cap) (d := (Lib.compact xs ++ List.replicate (xs.length - (Lib.compact xs).length) 0).toArray) (ys := Lib.compact xs) hb hB' (by omega) hm hs (by simp) (by simp; omega) (fun j hj => by
     simp only [List.getElem!_toArray, List.getD_eq_getElem?_getD]
     rw [List.getElem!_eq_getElem?_getD, List.getElem?_append_left hj]
     rfl)
   exact ⟨_, rfl, rfl, h1, ((keeps_ahead q).wide (L' := [g]) (by simp)).trans (keeps_putRow (W := Sort.ahead W q) (g := g) (off := off)) (fun b hb _ => hb)⟩
end
open Go.RowKit Go.Maps Go.Deep
section
variable {w : World} {F : List Nat} {rooms : Value} {p : Nat} {mb : Nat → Nat} {f : Nat → Int → Option Value} {k : Lk} {m base : Nat} {who op a v : Int} {sh : Bool} {j : Int}
def OwnPost (w : World) (F : List Nat) (rooms : Value) (p : Nat) (mb : Nat → Nat) (f : Nat → Int → Option Value) (k : Lk) (m base : Nat) (who j : Int) (x : Ending) (u : World) : Prop :=
 ∃ r, x = .returned r ∧ Mint w.heap.size u r (ownL k who) ∧ LinksAt u F rooms p mb (updN f 4 (updI (f 4) who (some (.int .i64 j)))) (ownK k who j) (m + 1) base ∧ Keeps w u [mb 4]
set_option maxRecDepth 100000 in
set_option maxHeartbeats 1000000 in
theorem own_1 (hl : LinksAt w F rooms p mb f k m base) (hwf : (Lit.int .i64 who).wf = true) (hm : m < maxLen) {i : Int} (h4 : k.ones 4 who = some i) : Calls Try.prog 94 #[.pointer (some ⟨p, 0, none⟩), .int .i64 j, .agg #[Value.int .i64 who, .int .i64 op, .int .i64 a, .int .i64 v, .bool sh]] w (OwnPost w F rooms p mb f k m base who j) := by
 have O := Own.start w []
 have HL := Lib.hid hl
 have HWF := Lib.hid hwf
 have HM := Lib.hid hm
 have HV4 := Lib.hid (show f 4 who = some (.int .i64 i) by rw [HL.out.ones 4 (by decide) (by decide), h4]; rfl)
 have HR := Lib.hid (show ownL k who = [i] by simp [ownL, h4])
 clear h4
 clear hl hwf hm
 go_enter Try.func94, Try.ntmps94
 go_wp2_with (first
   | (refine own_box 5 #[Value.int .i64 who, .int .i64 op, .int .i64 a, .int .i64 v, .bool sh] O rfl rfl rfl rfl ?_; clear O; intro W b5 O; simp only [Act.put, kA, kZ, kS]))
 have c5 := Later.cell (O.get 0 rfl)
 have cm : ∀ q : Later W, q.1.cell? ⟨p, 1, none⟩ = some (.map (some (mb 4))) := fun q => (HL.out.kept (O.keep.trans q.2 (by simp)) (by simp)).blk.cell 1
 have lk : ∀ q : Later W, (Instr.lookup 117 (.map (some (mb 4))) (.int .i64 who) true).run Try.prog q.1 = .ok (.tuple #[.int .i64 i, .bool true]) q.1 := fun q => by
   have := look_okV ((HL.out.kept (O.keep.trans q.2 (by simp)) (by simp)).maps 4 (by decide)) 117 3 (.int .i64 0) Try.underlying117 (zero3 _) who HWF.out
   rwa [HV4.out] at this
 refine wp_quiet_later (by kernel_rfl) (by kernel_rfl) ?_
 repeat (first | go_big_quiet_skip | go_big_quiet_step (fail))
 refine kq fun p' => ?_
 replace O := O.keeps p'.2
 clear c5 cm lk
 generalize p'.1 = W at O ⊢
 go_wp2_with (first
   | (refine own_lit1 25 i O rfl rfl rfl rfl ?_; clear O; intro W gl O K1 _; simp only [Act.put, kA, kZ, kS])
   | (at_builtin; refine own_app w.heap.size (.slice none 0 0) [] i gl (.tmp 23) (.tmp 25) (O.drop_ 1) (Mint.nil _ _) rfl rfl rfl rfl ((O.get 0 rfl).cell 0) rfl (by simp) (by simp) ?_; intro v' W O2 M2; clear O; have O := O2; clear O2; simp only [Act.put, kA, kZ, kS]; simp only [List.drop] at O; rw [List.nil_append] at M2)
   | go_big_skip)
 have c5 := Later.cell (O.get 0 rfl)
 have cm : ∀ q : Later W, q.1.cell? ⟨p, 1, none⟩ = some (.map (some (mb 4))) := fun q => (HL.out.kept (O.keep.trans q.2 (by simp)) (by simp)).blk.cell 1
 refine wp_quiet_tail_later 7 (by kernel_rfl) (by kernel_rfl) ?_
 simp only [List.take, List.drop]
 repeat (first | go_big_quiet_skip | go_big_quiet_step (fail))
 refine kq fun p' => ?_
 replace O := O.keeps p'.2
 replace M2 := M2.keeps p'.2 (by simp)
 clear c5 cm
 generalize p'.1 = W at O M2 ⊢
 refine map_storeV ((HL.out.kept O.keep (by simp)).maps 4 (by decide)) 117 3 Try.underlying117 rfl rfl rfl rfl HWF.out rfl HM.out ?_
 intro u K M
 have L2 := Lib.hid ((HL.out.kept O.keep (by simp)).setOne (Nat.le_refl 4) (by decide) K M)
 have K2 := Lib.hid ((O.keep.wide (L' := [mb 4]) (by simp)).trans K (fun b hb _ => hb))
 have M3 := Lib.hid (M2.keeps K fun g hg hm => by
   obtain ⟨_, _, cur, hb⟩ := M2.own hg
   obtain rfl : g = mb 4 := by simpa using hm
   exact ((HL.out.kept O.keep (by simp)).maps 4 (by decide)).not_blk hb rfl)
 clear M M2
 go_wp2
 go_ret
 exact ⟨_, rfl, by rw [HR.out]; exact M3.out, L2.out, K2.out⟩
set_option maxRecDepth 100000 in
set_option maxHeartbeats 1000000 in
theorem own_2 (hl : LinksAt w F rooms p mb f k m base) (hwf : (Lit.int .i64 who).wf = true) (hm : m < maxLen) {i : Int} (h4 : k.ones 4 who = none) (h5 : k.ones 5 who = some i) : Calls Try.prog 94 #[.pointer (some ⟨p, 0, none⟩), .int .i64 j, .agg #[Value.int .i64 who, .int .i64 op, .int .i64 a, .int .i64 v, .bool sh]] w (OwnPost w F rooms p mb f k m base who j) := by
 have O := Own.start w []
 have HL := Lib.hid hl
 have HWF := Lib.hid hwf
 have HM := Lib.hid hm
 have HV4 := Lib.hid (show f 4 who = none by rw [HL.out.ones 4 (by decide) (by decide), h4]; rfl)
 have HV5 := Lib.hid (show f 5 who = some (.int .i64 i) by rw [HL.out.ones 5 (by decide) (by decide), h5]; rfl)
 have HR := Lib.hid (show ownL k who = [i] by simp [ownL, h4, h5])
 clear h4 h5
 clear hl hwf hm
 go_enter Try.func94, Try.ntmps94
 go_wp2_with (first
   | (refine own_box 5 #[Value.int .i64 who, .int .i64 op, .int .i64 a, .int .i64 v, .bool sh] O rfl rfl rfl rfl ?_; clear O; intro W b5 O; simp only [Act.put, kA, kZ, kS]))
 have c5 := Later.cell (O.get 0 rfl)
 have cm : ∀ q : Later W, q.1.cell? ⟨p, 1, none⟩ = some (.map (some (mb 4))) := fun q => (HL.out.kept (O.keep.trans q.2 (by simp)) (by simp)).blk.cell 1
 have lk : ∀ q : Later W, (Instr.lookup 117 (.map (some (mb 4))) (.int .i64 who) true).run Try.prog q.1 = .ok (.tuple #[.int .i64 0, .bool false]) q.1 := fun q => by
   have := look_okV ((HL.out.kept (O.keep.trans q.2 (by simp)) (by simp)).maps 4 (by decide)) 117 3 (.int .i64 0) Try.underlying117 (zero3 _) who HWF.out
   rwa [HV4.out] at this
 refine wp_quiet_later (by kernel_rfl) (by kernel_rfl) ?_
 repeat (first | go_big_quiet_skip | go_big_quiet_step (fail))
 refine kq fun p' => ?_
 replace O := O.keeps p'.2
 clear c5 cm lk
 generalize p'.1 = W at O ⊢
 go_wp2
 have c5 := Later.cell (O.get 0 rfl)
 have cm : ∀ q : Later W, q.1.cell? ⟨p, 2, none⟩ = some (.map (some (mb 5))) := fun q => (HL.out.kept (O.keep.trans q.2 (by simp)) (by simp)).blk.cell 2
 have lk : ∀ q : Later W, (Instr.lookup 117 (.map (some (mb 5))) (.int .i64 who) true).run Try.prog q.1 = .ok (.tuple #[.int .i64 i, .bool true]) q.1 := fun q => by
   have := look_okV ((HL.out.kept (O.keep.trans q.2 (by simp)) (by simp)).maps 5 (by decide)) 117 3 (.int .i64 0) Try.underlying117 (zero3 _) who HWF.out
   rwa [HV5.out] at this
 refine wp_quiet_later (by kernel_rfl) (by kernel_rfl) ?_
 repeat (first | go_big_quiet_skip | go_big_quiet_step (fail))
 refine kq fun p' => ?_
 replace O := O.keeps p'.2
 clear c5 cm lk
 generalize p'.1 = W at O ⊢
 go_wp2_with (first
   | (refine own_lit1 40 i O rfl rfl rfl rfl ?_; clear O; intro W gl O K1 _; simp only [Act.put, kA, kZ, kS])
   | (at_builtin; refine own_app w.heap.size (.slice none 0 0) [] i gl (.tmp 38) (.tmp 40) (O.drop_ 1) (Mint.nil _ _) rfl rfl rfl rfl ((O.get 0 rfl).cell 0) rfl (by simp) (by simp) ?_; intro v' W O2 M2; clear O; have O := O2; clear O2; simp only [Act.put, kA, kZ, kS]; simp only [List.drop] at O; rw [List.nil_append] at M2)
   | go_big_skip)
 have c5 := Later.cell (O.get 0 rfl)
 have cm : ∀ q : Later W, q.1.cell? ⟨p, 1, none⟩ = some (.map (some (mb 4))) := fun q => (HL.out.kept (O.keep.trans q.2 (by simp)) (by simp)).blk.cell 1
 refine wp_quiet_tail_later 7 (by kernel_rfl) (by kernel_rfl) ?_
 simp only [List.take, List.drop]
 repeat (first | go_big_quiet_skip | go_big_quiet_step (fail))
 refine kq fun p' => ?_
 replace O := O.keeps p'.2
 replace M2 := M2.keeps p'.2 (by simp)
 clear c5 cm
 generalize p'.1 = W at O M2 ⊢
 refine map_storeV ((HL.out.kept O.keep (by simp)).maps 4 (by decide)) 117 3 Try.underlying117 rfl rfl rfl rfl HWF.out rfl HM.out ?_
 intro u K M
 have L2 := Lib.hid ((HL.out.kept O.keep (by simp)).setOne (Nat.le_refl 4) (by decide) K M)
 have K2 := Lib.hid ((O.keep.wide (L' := [mb 4]) (by simp)).trans K (fun b hb _ => hb))
 have M3 := Lib.hid (M2.keeps K fun g hg hm => by
   obtain ⟨_, _, cur, hb⟩ := M2.own hg
   obtain rfl : g = mb 4 := by simpa using hm
   exact ((HL.out.kept O.keep (by simp)).maps 4 (by decide)).not_blk hb rfl)
 clear M M2
 go_wp2
 go_ret
 exact ⟨_, rfl, by rw [HR.out]; exact M3.out, L2.out, K2.out⟩
set_option maxRecDepth 100000 in
set_option maxHeartbeats 1000000 in
theorem own_3 (hl : LinksAt w F rooms p mb f k m base) (hwf : (Lit.int .i64 who).wf = true) (hm : m < maxLen) (h4 : k.ones 4 who = none) (h5 : k.ones 5 who = none) : Calls Try.prog 94 #[.pointer (some ⟨p, 0, none⟩), .int .i64 j, .agg #[Value.int .i64 who, .int .i64 op, .int .i64 a, .int .i64 v, .bool sh]] w (OwnPost w F rooms p mb f k m base who j) := by
 have O := Own.start w []
 have HL := Lib.hid hl
 have HWF := Lib.hid hwf
 have HM := Lib.hid hm
 have HV4 := Lib.hid (show f 4 who = none by rw [HL.out.ones 4 (by decide) (by decide), h4]; rfl)
 have HV5 := Lib.hid (show f 5 who = none by rw [HL.out.ones 5 (by decide) (by decide), h5]; rfl)
 have HR := Lib.hid (show ownL k who = [] by simp [ownL, h4, h5])
 clear h4 h5
 clear hl hwf hm
 go_enter Try.func94, Try.ntmps94
 go_wp2_with (first
   | (refine own_box 5 #[Value.int .i64 who, .int .i64 op, .int .i64 a, .int .i64 v, .bool sh] O rfl rfl rfl rfl ?_; clear O; intro W b5 O; simp only [Act.put, kA, kZ, kS]))
 have c5 := Later.cell (O.get 0 rfl)
 have cm : ∀ q : Later W, q.1.cell? ⟨p, 1, none⟩ = some (.map (some (mb 4))) := fun q => (HL.out.kept (O.keep.trans q.2 (by simp)) (by simp)).blk.cell 1
 have lk : ∀ q : Later W, (Instr.lookup 117 (.map (some (mb 4))) (.int .i64 who) true).run Try.prog q.1 = .ok (.tuple #[.int .i64 0, .bool false]) q.1 := fun q => by
   have := look_okV ((HL.out.kept (O.keep.trans q.2 (by simp)) (by simp)).maps 4 (by decide)) 117 3 (.int .i64 0) Try.underlying117 (zero3 _) who HWF.out
   rwa [HV4.out] at this
 refine wp_quiet_later (by kernel_rfl) (by kernel_rfl) ?_
 repeat (first | go_big_quiet_skip | go_big_quiet_step (fail))
 refine kq fun p' => ?_
 replace O := O.keeps p'.2
 clear c5 cm lk
 generalize p'.1 = W at O ⊢
 go_wp2
 have c5 := Later.cell (O.get 0 rfl)
 have cm : ∀ q : Later W, q.1.cell? ⟨p, 2, none⟩ = some (.map (some (mb 5))) := fun q => (HL.out.kept (O.keep.trans q.2 (by simp)) (by simp)).blk.cell 2
 have lk : ∀ q : Later W, (Instr.lookup 117 (.map (some (mb 5))) (.int .i64 who) true).run Try.prog q.1 = .ok (.tuple #[.int .i64 0, .bool false]) q.1 := fun q => by
   have := look_okV ((HL.out.kept (O.keep.trans q.2 (by simp)) (by simp)).maps 5 (by decide)) 117 3 (.int .i64 0) Try.underlying117 (zero3 _) who HWF.out
   rwa [HV5.out] at this
 refine wp_quiet_later (by kernel_rfl) (by kernel_rfl) ?_
 repeat (first | go_big_quiet_skip | go_big_quiet_step (fail))
 refine kq fun p' => ?_
 replace O := O.keeps p'.2
 clear c5 cm lk
 generalize p'.1 = W at O ⊢
 go_wp2
 have M2 := Mint.nil w.heap.size W
 obtain ⟨v', hv'⟩ : ∃ v' : Value, v' = .slice none 0 0 := ⟨_, rfl⟩
 have HVV := Lib.hid hv'
 rw [← hv'] at M2
 clear hv'
 have c5 := Later.cell (O.get 0 rfl)
 have cm : ∀ q : Later W, q.1.cell? ⟨p, 1, none⟩ = some (.map (some (mb 4))) := fun q => (HL.out.kept (O.keep.trans q.2 (by simp)) (by simp)).blk.cell 1
 refine wp_quiet_tail_later 7 (by kernel_rfl) (by kernel_rfl) ?_
 simp only [List.take, List.drop]
 repeat (first | go_big_quiet_skip | go_big_quiet_step (fail))
 refine kq fun p' => ?_
 replace O := O.keeps p'.2
 replace M2 := M2.keeps p'.2 (by simp)
 clear c5 cm
 generalize p'.1 = W at O M2 ⊢
 refine map_storeV ((HL.out.kept O.keep (by simp)).maps 4 (by decide)) 117 3 Try.underlying117 rfl rfl rfl rfl HWF.out rfl HM.out ?_
 intro u K M
 have L2 := Lib.hid ((HL.out.kept O.keep (by simp)).setOne (Nat.le_refl 4) (by decide) K M)
 have K2 := Lib.hid ((O.keep.wide (L' := [mb 4]) (by simp)).trans K (fun b hb _ => hb))
 have M3 := Lib.hid (M2.keeps K fun g hg hm => by
   obtain ⟨_, _, cur, hb⟩ := M2.own hg
   obtain rfl : g = mb 4 := by simpa using hm
   exact ((HL.out.kept O.keep (by simp)).maps 4 (by decide)).not_blk hb rfl)
 clear M M2
 go_wp2
 go_ret
 exact ⟨_, rfl, by rw [HR.out, ← HVV.out]; exact M3.out, L2.out, K2.out⟩
theorem own_any (hl : LinksAt w F rooms p mb f k m base) (hwf : (Lit.int .i64 who).wf = true) (hm : m < maxLen) : Calls Try.prog 94 #[.pointer (some ⟨p, 0, none⟩), .int .i64 j, .agg #[Value.int .i64 who, .int .i64 op, .int .i64 a, .int .i64 v, .bool sh]] w (OwnPost w F rooms p mb f k m base who j) := by
 cases h4 : k.ones 4 who with
 | some i => exact own_1 hl hwf hm h4
 | none =>
   cases h5 : k.ones 5 who with
   | some i => exact own_2 hl hwf hm h4 h5
   | none => exact own_3 hl hwf hm h4 h5
end
open Go.RowKit Go.Maps Go.Deep
theorem HRow.listL {base : Nat} {W : World} {v : Value} {xs : List Int} (h : HRow base W v xs) : IntL W v xs ∧ ∀ n c, v = .slice none n c → n = 0 ∧ c = 0 := by
 rcases h with ⟨rfl, rfl⟩ | ⟨g, off, cap, cur, rfl, hb, hB, h1, h2, h3, h4⟩
 · exact ⟨IntL.nil W, fun n c e => by cases e; exact ⟨rfl, rfl⟩⟩
 · exact ⟨⟨_, cap, rfl, fun _ => ⟨_, rfl, hB.lt, fun j hj => by rw [Addr.add_mid, hB.cell]; exact h4 j hj⟩⟩, fun n c e => by cases e⟩
section
variable {w W u : World} {S : List Nat} {L : List Ent}
theorem Own.wrote (O : Own w W S L) {T : List Nat} (k : Keeps W u T) (hT : ∀ b ∈ T, b < w.heap.size → b ∈ S) (hL : ∀ q ∈ L, q.1 ∉ T) : Own w u S L :=
 ⟨O.keep.trans k (fun b hb hlt => hT b hb hlt), fun q hq => (O.blk q hq).keeps k (hL q hq), O.new, O.nd⟩
end
theorem grown_keepsV {w w' : World} {v : Value} (g : w.grownBy w' v.ownBlock) : Keeps w w' (v.ownBlock.toList) := ⟨g.os, g.tape, g.output, g.size, fun b hb' hn => g.block b hb' (by intro e; exact hn (by rw [← e]; simp))⟩
structure NX (w W : World) (F F' : List Nat) (rooms : Value) (p : Nat) (mb : Nat → Nat) (f : Nat → Int → Option Value) (k : Lk) (m base : Nat) (L : List Ent) (r : Value) (fr : List Int) : Prop where
 own : Own w W F L
 at_ : LinksAt W F' rooms p mb f k m base
 row : Mint w.heap.size W r fr
 new : ∀ b ∈ F', b ∈ F ∨ w.heap.size ≤ b
 old : ∀ b ∈ F, b < w.heap.size
 ap : ∀ g, r.ownBlock = some g → g ∉ F'
 apL : ∀ q ∈ L, q.1 ∉ F'
 mF : ∀ i, i < 7 → mb i ∈ F
 pw : p < w.heap.size
section
variable {w W u : World} {F F' : List Nat} {rooms : Value} {p : Nat} {mb : Nat → Nat} {f : Nat → Int → Option Value} {k : Lk} {m base : Nat} {L : List Ent} {r : Value} {fr : List Int}
theorem NX.kept (h : NX w W F F' rooms p mb f k m base L r fr) (K : Keeps W u []) : NX w u F F' rooms p mb f k m base L r fr :=
 ⟨h.own.keeps K, h.at_.kept K (by simp), h.row.keeps K (by simp), h.new, h.old, h.ap, h.apL, h.mF, h.pw⟩
theorem NX.drop_ (h : NX w W F F' rooms p mb f k m base L r fr) (n : Nat) : NX w W F F' rooms p mb f k m base (L.drop n) r fr :=
 ⟨h.own.drop_ n, h.at_, h.row, h.new, h.old, h.ap, fun q hq => h.apL q (List.mem_of_mem_drop hq), h.mF, h.pw⟩
theorem NX.add (h : NX w W F F' rooms p mb f k m base L r fr) {g t : Nat} {cs : Array Value} (O : Own w u F ((g, t, cs) :: L)) (K : Keeps W u []) (hg : W.heap.size ≤ g) : NX w u F F' rooms p mb f k m base ((g, t, cs) :: L) r fr :=
 ⟨O, h.at_.kept K (by simp), h.row.keeps K (by simp), h.new, h.old, h.ap, fun q hq => by
   rcases List.mem_cons.1 hq with rfl | hq
   · intro hm
     have := (h.at_.ltF _ hm).2
     omega
   · exact h.apL q hq, h.mF, h.pw⟩
end
theorem HRow.shape {base : Nat} {W : World} {v : Value} {xs : List Int} (h : HRow base W v xs) : ∃ A c, v = .slice A xs.length c ∧ ∀ q, q < xs.length → ∃ ad, A = some ad ∧ W.cell? (ad.add q) = some (.int .i64 (xs.getD q 0)) := by
 obtain ⟨A, c, e, _, _, hc⟩ := h.cells
 exact ⟨A, c, e, fun q hq => by obtain ⟨ad, e', hx⟩ := hc (by omega); exact ⟨ad, e', hx q hq⟩⟩
theorem HRow.cellOf {base : Nat} {W : World} {ad : Addr} {n c : Nat} {xs : List Int} (h : HRow base W (.slice (some ad) n c) xs) {q : Nat} (hq : q < xs.length) : W.cell? (ad.add q) = some (.int .i64 (xs.getD q 0)) := by
 obtain ⟨A, c', e, hx⟩ := h.shape
 injection e with e1 _ _
 subst e1
 obtain ⟨ad', e', h'⟩ := hx q hq
 cases e'
 exact h'
def PX (w u : World) (F F' : List Nat) (rooms : Value) (p : Nat) (mb : Nat → Nat) (f : Nat → Int → Option Value) (k : Lk) (m base : Nat) (L : List Ent) (r : Value) (fr : List Int) (i : Nat) (key : Int) (v' : Value) (xs' : List Int) : Prop :=
 ∃ W0, NX w W0 F F' rooms p mb f k m base L r fr ∧ Keeps W0 u (rowV f i key).ownBlock.toList ∧ HRow base u v' xs' ∧ (v'.ownBlock = (rowV f i key).ownBlock ∨ ∀ g, v'.ownBlock = some g → W0.heap.size ≤ g)
structure S3 (u : World) (p : Nat) (rooms : Value) (mb : Nat → Nat) (f : Nat → Int → Option Value) (m b5 : Nat) (cs : Array Value) : Prop where
 ev : Blk u b5 37 cs
 blk : Blk u p 161 (linksC rooms mb)
 maps : ∀ i, i < 7 → MapV u (mb i) m (f i)
section
variable {w W u : World} {F F' : List Nat} {rooms : Value} {p : Nat} {mb : Nat → Nat} {f : Nat → Int → Option Value} {k : Lk} {m base : Nat} {L : List Ent} {r : Value} {fr : List Int} {b5 : Nat} {cs : Array Value} {i : Nat} {key : Int} {v' : Value} {xs' : List Int}
theorem NX.s3 (h : NX w W F F' rooms p mb f k m base L r fr) (hb : (b5, 37, cs) ∈ L) : S3 W p rooms mb f m b5 cs := ⟨h.own.blk _ hb, h.at_.blk, h.at_.maps⟩
theorem NX.mapsK (M : NX w W F F' rooms p mb f k m base L r fr) (hi : i < 4) (K : Keeps W u (rowV f i key).ownBlock.toList) : ∀ i', i' < 7 → MapV u (mb i') m (f i') := fun i' hi' => (M.at_.maps i' hi').keeps K fun hm' => by
 have e : (rowV f i key).ownBlock = some (mb i') := by simpa using hm'
 obtain ⟨_, cur, hbb⟩ := (M.at_.rows i hi key).own e
 exact (M.at_.maps i' hi').not_blk hbb rfl
theorem PX.s3 (h : PX w W F F' rooms p mb f k m base L r fr i key v' xs') (hi : i < 4) (hb : (b5, 37, cs) ∈ L) : S3 W p rooms mb f m b5 cs := by
 obtain ⟨W0, M, hk, _⟩ := h
 have hr : ∀ b ∈ (rowV f i key).ownBlock.toList, b ∈ F' := fun b hb => M.at_.inR i hi key b (by simpa using hb)
 exact ⟨(M.own.blk _ hb).keeps hk fun hm => M.apL _ hb (hr _ hm), M.at_.blk.keeps hk fun hm => M.at_.pF (hr _ hm), M.mapsK hi hk⟩
end
theorem append_fresh0 {w : World} {P : Program} (base t ty e : Nat) (i : TypeInfo) (z : Value) (size bytes : Nat) (ht : P.underlying t = some (.slice e)) (hi : P.info? e = some i) (hz : i.zero = some z) (hsize : i.size = size) (hby : i.bytes = bytes)
   (v : Value) (n : Nat) (xs : List Value) (hown : w.ownsRow base e size v n xs) (a : Addr) (m c : Nat) (news : List Value) (hl : news.length = m * size) (hnews : ∀ j u, news[j]? = some u → w.cell? (a.add j) = some u) (h1 : ∀ u ∈ news, u.oneCell' = true)
   (h63 : n + m ≤ maxLen) (hbytes : (n + m) * bytes ≤ 140737488355328) {v' : Value} {w' : World} (hr : (Builtin.append_ #[t, t] ty #[v, .slice (some a) m c]).run P w = .ok v' w') (h4 : v' = .slice none 0 0 ↔ v = .slice none 0 0 ∧ m = 0) : v'.ownBlock = v.ownBlock ∨ v'.ownBlock = some w.heap.size := by
 rcases Nat.eq_zero_or_pos m with hm | hm
 · subst hm
   subst hsize
   subst hby
   obtain ⟨hxl, ⟨rfl, rfl⟩ | ⟨g, cap, cur, rfl, hbg, hg, hle, hcm, hcs, htake⟩⟩ := hown
   · rw [h4.2 ⟨rfl, rfl⟩]; exact .inl rfl
   · have hroom : n + 0 ≤ cap := hle
     have hfit : n * i.size + news.length ≤ cur.size := by rw [hl, hcs, ← Nat.add_mul]; exact Nat.mul_le_mul_right _ hroom
     have h := run_append_room (P := P) w t ty e i ht hi g n cap cur hg a 0 c news hl hnews h1 hroom hfit
     rw [hr] at h
     cases h
     exact .inl rfl
 · exact append_fresh base t ty e i z size bytes ht hi hz hsize hby v n xs hown a m c news hl hnews h1 h63 hbytes hm hr
section
variable {ops : Array Oper} {rest : List Oper} {o o2 : Oper} {a : Act} {w W : World} {Q : Exit → Act → World → Prop} {F F' : List Nat} {rooms : Value} {p : Nat} {mb : Nat → Nat} {f : Nat → Int → Option Value} {k : Lk} {m base : Nat} {L : List Ent} {r : Value} {fr : List Int} {x0 s z x y z2 : Operand}
theorem nx_lit (d : Nat) (n0 : Int) (M : NX w W F F' rooms p mb f k m base L r fr) (_hd : o.dst = some d) (hgd : o.guard = none) (ho : o.op = .buildSlice 25 1 #[(0, x0)]) (h0 : a.eval x0 = .int .i64 n0)
   (h : ∀ u g, NX w u F F' rooms p mb f k m base ((g, 3, #[.int .i64 n0]) :: L) r fr → wpList Try.prog ops Q rest (a.put o.dst (.slice (some ⟨g, 0, none⟩) 1 1)) u) : wpList Try.prog ops Q (o :: rest) a W :=
 own_lit1 d n0 M.own _hd hgd ho h0 fun u g O K hg => h u g (M.add O K hg)
theorem nx_from (zv : Value) (ys : List Int) (s z : Operand) (M : NX w W F F' rooms p mb f k m base L r fr) (hgd : o.guard = none) (ho : o.op = .call { callee := .builtin .append, args := #[s, z], argTypes := #[25, 25] })
   (hs : a.eval s = r) (hz' : a.eval z = zv) (hI : IntL W zv ys) (h0 : ∀ n c, zv = .slice none n c → n = 0 ∧ c = 0) (hL : ∀ q ∈ L, r.ownBlock ≠ some q.1) (hn : fr.length + ys.length ≤ 5000000)
   (h : ∀ v' u, NX w u F F' rooms p mb f k m base L v' (fr ++ ys) → (∀ q ∈ L, v'.ownBlock ≠ some q.1) → wpList Try.prog ops Q rest (a.put o.dst v') u) : wpList Try.prog ops Q (o :: rest) a W := by
 obtain ⟨i, hi, hz, hsz, hby⟩ := info3
 obtain ⟨A, c, rfl, hc⟩ := hI
 have hbW : w.heap.size ≤ W.heap.size := M.own.keep.size
 rcases A with _ | ad
 · obtain ⟨hn0, rfl⟩ := h0 _ _ rfl
   have hy : ys = [] := List.eq_nil_of_length_eq_zero hn0
   subst hy
   exact wpList_append_own_none hgd s z 25 ho w.heap.size 3 i 1 Try.underlying25 hi r fr.length (fr.map fun x => .int .i64 x) hs M.row hz' (h r W (by rw [List.append_nil]; exact M) hL)
 · have hnews : ∀ j u, (ys.map fun x => Value.int .i64 x)[j]? = some u → W.cell? (ad.add j) = some u := fun j u hu => by
     rw [List.getElem?_map] at hu
     obtain ⟨q, hq, rfl⟩ := Option.map_eq_some_iff.1 hu
     have hj := (List.getElem?_eq_some_iff.1 hq).1
     obtain ⟨ad', e, _, hcc⟩ := hc (by omega)
     cases e
     rw [hcc j hj, List.getD_eq_getElem?_getD, hq]
     rfl
   have h1 : ∀ u ∈ ys.map fun x => Value.int .i64 x, u.oneCell' = true := fun u hu => by obtain ⟨q, _, rfl⟩ := List.mem_map.1 hu; rfl
   obtain ⟨v', u, hr, g2, g3, g4⟩ := run_append_own (P := Try.prog) W w.heap.size 25 o.type 3 i (.int .i64 0) 1 8 Try.underlying25 hi hz hsz hby rfl (by decide) r fr.length _ M.row ad ys.length c _ (by simp) hnews h1 (by simp only [maxLen]; omega) (by omega) hbW
   have hf := append_fresh0 (w := W) (P := Try.prog) w.heap.size 25 o.type 3 i (.int .i64 0) 1 8 Try.underlying25 hi hz hsz hby r fr.length _ M.row ad ys.length c _ (by simp) hnews h1 (by simp only [maxLen]; omega) (by omega) hr g4
   refine wpList_plain hgd fun K hK => ?_
   unfold Oper.wp execOp
   simp only [ho, resolve, invoke, builtin, Sem.run_bind, Sem.run_pure, Result.andThen_ok, List.map_toArray, List.map_cons, List.map_nil, hs, hz', hr]
   have hk := grown_keepsV g3
   have hrF : ∀ b ∈ r.ownBlock.toList, w.heap.size ≤ b ∧ b ∉ F' := fun b hb => by
     have hb' : r.ownBlock = some b := by simpa using hb
     exact ⟨(Mint.own M.row hb').1, M.ap b hb'⟩
   have hap : ∀ g, v'.ownBlock = some g → g ∉ F' ∧ (r.ownBlock = some g ∨ W.heap.size ≤ g) := fun g hg => by
     rcases hf with e | e
     · rw [e] at hg; exact ⟨M.ap g hg, .inl hg⟩
     · rw [e] at hg
       cases hg
       exact ⟨fun hm => by have := (M.at_.ltF _ hm).2; omega, .inr (Nat.le_refl _)⟩
   refine hK _ _ (h _ _ ⟨?_, ?_, ?_, M.new, M.old, fun g hg => (hap g hg).1, M.apL, M.mF, M.pw⟩ ?_)
   · refine M.own.wrote hk (fun b hb hlt => ?_) (fun q hq hm => hL q hq (by simpa using hm))
     have := (hrF b hb).1
     omega
   · exact M.at_.kept hk fun b hb => ⟨(hrF b hb).2, fun e => by have := (hrF b hb).1; have := M.pw; omega⟩
   · unfold Mint; rw [List.length_append, List.map_append]; exact g2
   · intro q hq e
     rcases (hap _ e).2 with h5 | h5
     · exact hL q hq h5
     · have := (M.own.blk q hq).lt
       omega
theorem nx_from1 (y : Int) (gl : Nat) (s z : Operand) (M : NX w W F F' rooms p mb f k m base ((gl, 3, #[.int .i64 y]) :: L) r fr) (hgd : o.guard = none) (ho : o.op = .call { callee := .builtin .append, args := #[s, z], argTypes := #[25, 25] })
   (hs : a.eval s = r) (hz' : a.eval z = .slice (some ⟨gl, 0, none⟩) 1 1) (hL : ∀ q ∈ L, r.ownBlock ≠ some q.1) (hn : fr.length ≤ 1000000)
   (h : ∀ v' u, NX w u F F' rooms p mb f k m base L v' (fr ++ [y]) → (∀ q ∈ L, v'.ownBlock ≠ some q.1) → wpList Try.prog ops Q rest (a.put o.dst v') u) : wpList Try.prog ops Q (o :: rest) a W := by
 refine nx_from (.slice (some ⟨gl, 0, none⟩) 1 1) [y] s z (M.drop_ 1) hgd ho hs hz' ⟨_, 1, rfl, fun _ => ⟨_, rfl, (M.own.get 0 rfl).lt, fun j hj => ?_⟩⟩ (fun n c e => by cases e) hL (by simp; omega) h
 have hj0 : j = 0 := by simpa using hj
 subst hj0
 exact (M.own.get 0 rfl).cell 0
theorem nx_app (i : Nat) (key y : Int) (gl : Nat) (s z : Operand) (M : NX w W F F' rooms p mb f k m base ((gl, 3, #[.int .i64 y]) :: L) r fr) (hi : i < 4) (hgd : o.guard = none) (ho : o.op = .call { callee := .builtin .append, args := #[s, z], argTypes := #[25, 25] })
   (hs : a.eval s = rowV f i key) (hz' : a.eval z = .slice (some ⟨gl, 0, none⟩) 1 1) (hn : (k.rows i key).length ≤ 1000000)
   (h : ∀ v' u, PX w u F F' rooms p mb f k m base L r fr i key v' (k.rows i key ++ [y]) → wpList Try.prog ops Q rest (a.put o.dst v') u) :
   wpList Try.prog ops Q (o :: rest) a W := by
 have hb : base ≤ W.heap.size := by
   have := M.at_.ltF _ (M.at_.inM 0 (by decide))
   omega
 obtain ⟨v', u, hr, h2, h3, hf⟩ := run_push (w := W) base o.type (rowV f i key) (k.rows i key) (M.at_.rows i hi key) ⟨gl, 0, none⟩ 1 y ((M.own.get 0 rfl).cell 0) hb hn
 refine wpList_plain hgd fun K hK => ?_
 unfold Oper.wp execOp
 simp only [ho, resolve, invoke, builtin, Sem.run_bind, Sem.run_pure, Result.andThen_ok, List.map_toArray, List.map_cons, List.map_nil, hs, hz', hr]
 refine hK _ _ (h v' u ⟨W, M.drop_ 1, grown_keepsV h3, h2, ?_⟩)
 rcases hf with e | e
 · exact .inl e
 · exact .inr fun g hg => by rw [e] at hg; cases hg; exact Nat.le_refl _
theorem nx_upd (i : Nat) (key : Int) (v' : Value) (xs' : List Int) (T : Nat) (x y2 z2 : Operand) (M : PX w W F F' rooms p mb f k m base L r fr i key v' xs') (hi : i < 4) (hgd2 : o2.guard = none) (hT : Try.prog.underlying T = some (.map 3 25)) (ho2 : o2.op = .mapUpdate T x y2 z2)
   (hx : a.eval x = .map (some (mb i))) (hy : a.eval y2 = .int .i64 key) (hz2 : a.eval z2 = v') (hk : (Lit.int .i64 key).wf = true) (hm : m < maxLen)
   (h : ∀ u F2, NX w u F F2 rooms p mb (updN f i (updI (f i) key (some v'))) ⟨updN k.rows i (updI (k.rows i) key xs'), k.ones⟩ (m + 1) base L r fr → wpList Try.prog ops Q rest (a.put o2.dst undef) u) :
   wpList Try.prog ops Q (o2 :: rest) a W := by
 obtain ⟨W0, M, hk1, h2, hfr⟩ := M
 have hi7 : i < 7 := by omega
 have M1 := M.mapsK hi hk1 i hi7
 refine map_storeV M1 T 25 hT hgd2 ho2 hx hy hk hz2 hm fun u2 K2 M2 => ?_
 have hrow : ∀ b ∈ (rowV f i key).ownBlock.toList, b ∈ F' := fun b hb => M.at_.inR i hi key b (by simpa using hb)
 have hvF : ∀ g, v'.ownBlock = some g → g ∈ F' ∨ W0.heap.size ≤ g := fun g hg => by
   rcases hfr with e | e
   · exact .inl (M.at_.inR i hi key g (by rw [← e]; exact hg))
   · exact .inr (e g hg)
 have lt0 : ∀ q ∈ L, q.1 < W0.heap.size := fun q hq => (M.own.blk q hq).lt
 have hrl : ∀ g, r.ownBlock = some g → g < W0.heap.size := fun g hg => (Mint.own M.row hg).2.1
 refine h u2 _ ⟨?_, M.at_.setRow hi hk1 h2 hfr K2 M2, ?_, fun b hb => ?_, M.old, fun g hg hm' => ?_, fun q hq hm' => ?_, M.mF, M.pw⟩
 · refine (M.own.wrote hk1 (fun b hb hlt => ?_) (fun q hq hm' => M.apL q hq (hrow _ hm'))).wrote K2 (fun b hb hlt => ?_) (fun q hq hm' => ?_)
   · rcases M.new b (hrow b hb) with h' | h'
     · exact h'
     · omega
   · obtain rfl : b = mb i := by simpa using hb
     exact M.mF i hi7
   · have e : q.1 = mb i := by simpa using hm'
     exact M.apL q hq (by rw [e]; exact M.at_.inM i hi7)
 · have hr1 : Mint w.heap.size W r fr := M.row.keeps hk1 fun g hg hm' => M.ap g hg (hrow _ hm')
   exact hr1.keeps K2 fun g hg hm' => by
     obtain rfl : g = mb i := by simpa using hm'
     exact M.ap _ hg (M.at_.inM i hi7)
 · rcases List.mem_append.1 hb with hm' | hm'
   · rcases hvF b (by simpa using hm') with h' | h'
     · exact M.new b h'
     · exact .inr (Nat.le_trans M.own.keep.size h')
   · exact M.new b hm'
 · rcases List.mem_append.1 hm' with hm2 | hm2
   · rcases hvF g (by simpa using hm2) with h' | h'
     · exact M.ap g hg h'
     · have := hrl g hg; omega
   · exact M.ap g hg hm2
 · rcases List.mem_append.1 hm' with hm2 | hm2
   · rcases hvF q.1 (by simpa using hm2) with h' | h'
     · exact M.apL q hq h'
     · have := lt0 q hq; omega
   · exact M.apL q hq hm2
theorem nx_clear (i : Nat) (key : Int) (T : Nat) (x y2 z2 : Operand) (M : NX w W F F' rooms p mb f k m base L r fr) (hi : i < 4) (hgd2 : o2.guard = none) (hT : Try.prog.underlying T = some (.map 3 25)) (ho2 : o2.op = .mapUpdate T x y2 z2) (hx : a.eval x = .map (some (mb i))) (hy : a.eval y2 = .int .i64 key)
   (hz2 : a.eval z2 = .slice none 0 0) (hk : (Lit.int .i64 key).wf = true) (hm : m < maxLen)
   (h : ∀ u, NX w u F F' rooms p mb (updN f i (updI (f i) key (some (.slice none 0 0)))) ⟨updN k.rows i (updI (k.rows i) key []), k.ones⟩ (m + 1) base L r fr → wpList Try.prog ops Q rest (a.put o2.dst undef) u) :
   wpList Try.prog ops Q (o2 :: rest) a W := by
 have hi7 : i < 7 := by omega
 refine map_storeV (M.at_.maps i hi7) T 25 hT hgd2 ho2 hx hy hk hz2 hm fun u2 K2 M2 => h u2 ⟨?_, ?_, ?_, M.new, M.old, M.ap, M.apL, M.mF, M.pw⟩
 · refine M.own.wrote K2 (fun b hb _ => ?_) (fun q hq hm' => ?_)
   · obtain rfl : b = mb i := by simpa using hb
     exact M.mF i hi7
   · have e : q.1 = mb i := by simpa using hm'
     exact M.apL q hq (by rw [e]; exact M.at_.inM i hi7)
 · have := M.at_.setRow (v' := .slice none 0 0) (xs' := []) hi (Keeps.refl W _) (HRow.nil _ _) (.inr fun g hg => by cases hg) K2 M2
   simpa [Value.ownBlock] using this
 · exact M.row.keeps K2 fun g hg hm' => by
     obtain rfl : g = mb i := by simpa using hm'
     exact M.ap _ hg (M.at_.inM i hi7)
theorem nx_one (i : Nat) (key x0 : Int) (T : Nat) (x y2 z2 : Operand) (M : NX w W F F' rooms p mb f k m base L r fr) (hi : 4 ≤ i) (hi7 : i < 7) (hgd2 : o2.guard = none) (hT : Try.prog.underlying T = some (.map 3 3)) (ho2 : o2.op = .mapUpdate T x y2 z2) (hx : a.eval x = .map (some (mb i))) (hy : a.eval y2 = .int .i64 key)
   (hz2 : a.eval z2 = .int .i64 x0) (hk : (Lit.int .i64 key).wf = true) (hm : m < maxLen)
   (h : ∀ u, NX w u F F' rooms p mb (updN f i (updI (f i) key (some (.int .i64 x0)))) ⟨k.rows, updN k.ones i (updI (k.ones i) key (some x0))⟩ (m + 1) base L r fr → wpList Try.prog ops Q rest (a.put o2.dst undef) u) :
   wpList Try.prog ops Q (o2 :: rest) a W := by
 refine map_storeV (M.at_.maps i hi7) T 3 hT hgd2 ho2 hx hy hk hz2 hm fun u2 K2 M2 => h u2 ⟨?_, M.at_.setOne hi hi7 K2 M2, ?_, M.new, M.old, M.ap, M.apL, M.mF, M.pw⟩
 · refine M.own.wrote K2 (fun b hb _ => ?_) (fun q hq hm' => ?_)
   · obtain rfl : b = mb i := by simpa using hb
     exact M.mF i hi7
   · have e : q.1 = mb i := by simpa using hm'
     exact M.apL q hq (by rw [e]; exact M.at_.inM i hi7)
 · exact M.row.keeps K2 fun g hg hm' => by
     obtain rfl : g = mb i := by simpa using hm'
     exact M.ap _ hg (M.at_.inM i hi7)
end
open Go.RowKit Go.Maps Go.Deep
theorem nthV_lt {p : Nat → Bool} {j m : Nat} : nthV p j m < j := by
 unfold nthV
 cases h : (pickL p j)[m]? with
 | none => simp only; omega
 | some i =>
   have := ((pickL_mem p j i).1 (List.mem_of_getElem? h)).1
   simp only
   omega
theorem natL_lt {p : Nat → Bool} {j : Nat} {x : Int} (h : x ∈ natL (pickL p j)) : x < j := by
 unfold natL at h
 obtain ⟨i, hi, rfl⟩ := List.mem_map.1 h
 have := ((pickL_mem p j i).1 hi).1
 show (i : Int) < j
 omega
theorem refM_lt {E : Nat → Ev} {rm : Int → Int} {j : Nat} {e : Ev} {x : Int} (h : x ∈ refM E rm j e) : x < j := by
 unfold refM at h
 split at h
 · split at h
   · cases hs : shutN E e.a j with
     | none => rw [hs] at h; simp at h
     | some i =>
       rw [hs] at h
       obtain rfl : x = i := by simpa using h
       exact (shutN_lt hs).2
   · obtain rfl := List.mem_singleton.1 h
     exact nthV_lt
 · split at h
   · split at h
     · obtain rfl := List.mem_singleton.1 h
       exact nthV_lt
     · simp at h
   · split at h
     · exact natL_lt h
     · split at h
       · exact natL_lt h
       · simp at h
def OkAll (S : Sys) (E : Nat → Ev) (n : Nat) : Prop := ∀ j, j < n → okE S (stN E j) (E j) = true
section
variable {S : Sys} {E : Nat → Ev} {rm : Int → Int} {n j : Nat}
theorem intoL_mem (hok : okE S (stN E j) (E j) = true) (x : Int) : x ∈ intoL E rm j ↔ x ∈ ownL (lkN E j) (E j).who ++ refM E rm j (E j) ∧ 0 ≤ x := by
 unfold intoL
 rw [(sc_law _).2, into_same E rm j (E j) (fun h6 hs => ok_take hok h6 hs) (fun h6 hs => ok_shut hok h6 hs)]
theorem intoL_lt (hok : okE S (stN E j) (E j) = true) {x : Int} (h : x ∈ intoL E rm j) : 0 ≤ x ∧ x < j := by
 obtain ⟨h1, h2⟩ := (intoL_mem hok x).1 h
 refine ⟨h2, ?_⟩
 rcases List.mem_append.1 h1 with h1 | h1
 · exact (ownL_pos h1).2
 · exact refM_lt h1
theorem rising_len {ys : List Int} {j : Nat} (h : ys.Pairwise (· < ·)) (hm : ∀ x ∈ ys, 0 ≤ x ∧ x < j) : ys.length ≤ j := by
 have key : ∀ i (hi : i < ys.length), (i : Int) ≤ ys[i] := by
   intro i
   induction i with
   | zero => intro hi; exact (hm _ (List.getElem_mem hi)).1
   | succ i ih =>
     intro hi
     have h1 := ih (by omega)
     have h2 := List.pairwise_iff_getElem.1 h i (i + 1) (by omega) hi (by omega)
     omega
 rcases Nat.eq_zero_or_pos ys.length with h0 | h0
 · omega
 · have h1 := key (ys.length - 1) (by omega)
   have h2 := (hm _ (List.getElem_mem (show ys.length - 1 < ys.length by omega))).2
   omega
theorem intoL_length (hok : okE S (stN E j) (E j) = true) : (intoL E rm j).length ≤ j := rising_len (sc_law _).1 fun _ hx => intoL_lt hok hx
end
open Go.RowKit Go.Maps Go.Deep
def behP (f : Int → Bool) (i : Nat) (e : Int) : Bool := (e == (i : Int)) || f e
def behT (E : Nat → Ev) (rm : Int → Int) (i : Nat) : Nat → Int → Bool
 | 0 => fun _ => false
 | k + 1 => updI (behT E rm i k) (k : Int) (decide (i < k) && (intoL E rm k).any (behP (behT E rm i k) i))
section
variable {ops : Array Oper} {rest : List Oper} {o : Oper} {a : Act} {w W : World} {Q : Exit → Act → World → Prop} {S : List Nat} {L : List Ent} {g t : Nat} {ty : TypeId} {cs cs' : Array Value}
theorem own_storeK (k i : Nat) (v : Value) (y z : Operand) (O : Own w W S L) (hgd : o.guard = none) (hdst : o.dst = none) (ho : o.op = .store ty y z) (hy : a.eval y = .pointer (some ⟨g, i, none⟩)) (hz : a.eval z = v) (hk : L[k]? = some (g, t, cs))
   (hi : i < cs.size) (hx : v.cells = #[v]) (h1 : v.oneCell' = true) (hs : (Try.prog.info? ty).map (·.size) = some 1) (he : cs.setIfInBounds i v = cs')
   (h : ∀ u, Own w u S (L.set k (g, t, cs')) → Keeps W u [g] → wpList Try.prog ops Q rest a u) : wpList Try.prog ops Q (o :: rest) a W :=
 wpList_store_blk g i t cs v hgd hdst ho hy hz (O.get k hk) hi hx h1 hs fun u kp b => h u (O.set k hk kp (by rw [← he]; exact b)) kp
end
open Go.RowKit
inductive Bh (E : Nat → Ev) (rm : Int → Int) : Nat → Nat → Prop where
 | edge {i j : Nat} : (i : Int) ∈ intoL E rm j → Bh E rm i j
 | step {i k j : Nat} : Bh E rm i k → (k : Int) ∈ intoL E rm j → Bh E rm i j
section
variable {S : Sys} {E : Nat → Ev} {rm : Int → Int} {n i j k : Nat}
theorem Bh.trans (h : Bh E rm i k) (h' : Bh E rm k j) : Bh E rm i j := by
 induction h' with
 | edge h' => exact .step h h'
 | step _ h' ih => exact .step ih h'
theorem Bh.lt (hok : OkAll S E n) (h : Bh E rm i j) (hj : j < n) : i < j := by
 induction h with
 | edge h => have := intoL_lt (hok _ hj) h; omega
 | step _ h ih =>
   have h1 := intoL_lt (hok _ hj) h
   have := ih (by omega)
   omega
theorem behT_old : ∀ {m : Nat}, j < m → behT E rm i m (j : Int) = behT E rm i (j + 1) (j : Int)
 | m + 1, h => by
   by_cases e : j = m
   · rw [e]
   · rw [behT, updI_other _ _ _ _ (by omega)]
     exact behT_old (by omega)
theorem behT_at : behT E rm i (j + 1) (j : Int) = (decide (i < j) && (intoL E rm j).any (behP (behT E rm i j) i)) := by
 rw [behT, updI_same]
theorem behT_iff (hok : OkAll S E n) : ∀ j, j < n → (behT E rm i n (j : Int) = true ↔ Bh E rm i j) := by
 intro j
 induction j using Nat.strongRecOn with
 | ind j ih =>
   intro hj
   rw [behT_old hj, behT_at]
   constructor
   · intro h
     obtain ⟨_, h2⟩ := Bool.and_eq_true_iff.1 h
     obtain ⟨x, hx, hp⟩ := List.any_eq_true.1 h2
     obtain ⟨h0, h1⟩ := intoL_lt (hok _ hj) hx
     obtain ⟨p, rfl⟩ : ∃ p : Nat, x = (p : Int) := ⟨x.toNat, by omega⟩
     unfold behP at hp
     rcases Bool.or_eq_true_iff.1 hp with hp | hp
     · have e : p = i := by have := eq_of_beq hp; omega
       subst e
       exact .edge hx
     · rw [behT_old (show p < j by omega), ← behT_old (show p < n by omega)] at hp
       exact .step ((ih p (by omega) (by omega)).1 hp) hx
   · intro h
     have hlt := h.lt hok hj
     rw [decide_eq_true hlt, Bool.true_and, List.any_eq_true]
     cases h with
     | edge h => exact ⟨_, h, by simp [behP]⟩
     | step h hk =>
       rename_i k
       obtain ⟨_, h1⟩ := intoL_lt (hok _ hj) hk
       refine ⟨_, hk, ?_⟩
       unfold behP
       rw [behT_old (show k < j by omega), ← behT_old (show k < n by omega), (ih k (by omega) (by omega)).2 h, Bool.or_true]
end
open Go.RowKit Go.Maps Go.Deep
def jmax (c : Int → Int) (xs : List Int) (q : Nat) : Int → Int := fun x => if 0 ≤ x ∧ x < q then max (c x) (xs.getD x.toNat 0) else c x
theorem jmax_zero (c : Int → Int) (xs : List Int) : jmax c xs 0 = c := by
 funext x
 unfold jmax
 rw [if_neg (by omega)]
theorem jmax_succ (c : Int → Int) (xs : List Int) (q : Nat) : updI (jmax c xs q) (q : Int) (max (jmax c xs q (q : Int)) (xs.getD q 0)) = jmax c xs (q + 1) := by
 funext x
 by_cases h : x = q
 · subst h
   rw [updI_same]
   unfold jmax
   rw [if_neg (by omega), if_pos (by omega), Int.toNat_natCast]
 · rw [updI_other _ _ _ _ h]
   unfold jmax
   by_cases h2 : 0 ≤ x ∧ x < q
   · rw [if_pos h2, if_pos (by omega)]
   · rw [if_neg h2, if_neg (by omega)]
def CurI (cur : Array Value) (r : Nat) (c : Int → Int) : Prop := r ≤ cur.size ∧ ∀ j : Nat, j < r → cur[j]? = some (.int .i64 (c j))
theorem CurI.arr (r : Nat) (c : Int → Int) : CurI (arrI r c) r c := ⟨by rw [arrI_size]; exact Nat.le_refl _, fun j hj => arrI_get _ _ _ hj⟩
theorem CurI.set {cur : Array Value} {r : Nat} {c : Int → Int} (h : CurI cur r c) (q : Nat) (x : Int) (hq : q < r) : CurI (cur.setIfInBounds q (.int .i64 x)) r (updI c (q : Int) x) := by
 refine ⟨by simpa using h.1, fun j hj => ?_⟩
 rw [Array.getElem?_setIfInBounds]
 by_cases e : q = j
 · subst e
   rw [if_pos rfl, if_pos (by have := h.1; omega), updI_same]
 · rw [if_neg e, updI_other _ _ _ _ (by omega)]
   exact h.2 j hj
theorem CurI.same {cur : Array Value} {r : Nat} {c c' : Int → Int} (h : CurI cur r c) (e : ∀ j : Nat, j < r → c j = c' j) : CurI cur r c' := ⟨h.1, fun j hj => by rw [h.2 j hj, e j hj]⟩
section
variable {w : World} {gi gl r cap : Nat} {c : Int → Int} {v : Value} {xs : List Int} {cur : Array Value}
def JPost (w : World) (gi r : Nat) (c : Int → Int) (xs : List Int) (sz : Nat) (e : Ending) (u : World) : Prop := e = .returned (.tuple #[]) ∧ (∃ cur, Blk u gi 3 cur ∧ cur.size = sz ∧ CurI cur r (jmax c xs xs.length)) ∧ Keeps w u [gi]
set_option maxRecDepth 100000 in
set_option maxHeartbeats 1000000 in
theorem joined_any (hB : Blk w gi 3 cur) (hcu : CurI cur r c) (hl : Blk w gl 25 #[v]) (hI : IntL w v xs) (hx : xs.length ≤ r) (hr : r ≤ 1000000) (hne : ∀ ad n q, v = .slice (some ad) n q → 0 < n → ad.block ≠ gi) :
   Calls Try.prog 99 #[.slice (some ⟨gi, 0, none⟩) r cap, .slice (some ⟨gl, 0, none⟩) 1 1] w (JPost w gi r c xs cur.size) := by
 have hlt := hl.lt
 have hgl : gl ≠ gi := fun e => by
   subst e
   rw [Blk, hB] at hl
   injection hl with hl
   injection hl with _ hl _
   exact absurd hl (by decide)
 obtain ⟨A, cv, rfl, hc⟩ := hI
 obtain ⟨m, hm⟩ : ∃ m, m = xs.length := ⟨_, rfl⟩
 have HM := Lib.hid hm
 have HC := Lib.hid hc
 have hmr : m ≤ r := by omega
 have HNE := Lib.hid (show ∀ ad, A = some ad → 0 < m → ad.block ≠ gi from fun ad e h => hne ad m cv (by rw [e, ← hm]) h)
 have O := (Own.start w [gi]).have_ hB (by simp) (by simp)
 have c1 := hl.cell 0
 rw [← hm] at c1
 obtain ⟨sz, hsz⟩ : ∃ sz, sz = cur.size := ⟨_, rfl⟩
 have HSZ := Lib.hid hsz
 have HCU := Lib.hid hcu
 rw [← hsz]
 clear hB hx hc hne hm hcu hsz
 have h1 := O.get 0 rfl
 have HL := Lib.hid (fun u (K : Keeps w u [gi]) => (K.cell gl 0 hlt (by simpa using hgl)).trans c1)
 clear c1 h1 hlt
 go_enter Try.func99, Try.ntmps99
 go_wp2
 go_loopg [10] 1 (fun g s10 wr => ∃ k : Nat, k ≤ 1 ∧ g = 1 - k ∧ s10 = .int .i64 (k : Int) ∧ ∃ cu, Own w wr [gi] [(gi, 3, cu)] ∧ cu.size = sz ∧ CurI cu r (if k = 0 then c else jmax c xs m))
 case atStart => exact ⟨0, by omega, by omega, rfl, cur, O, HSZ.out.symm, by rw [if_pos rfl]; exact HCU.out⟩
 case round =>
   obtain ⟨k, hk, hgk, rfl, cu, O, hsz, hcu⟩ := hrel
   have HG := Lib.hid hgk
   have HS1 := Lib.hid hsz
   clear hgk hsz
   by_cases hlt : k < 1
   · obtain rfl : k = 0 := by omega
     have c12 := HL.out _ O.keep
     rw [if_pos rfl, ← jmax_zero c xs] at hcu
     have HC1 := Lib.hid hcu
     clear hcu
     go_wp2
     clear c12
     go_loopg [16] m (fun g s16 wr => ∃ q : Nat, q ≤ m ∧ g = m - q ∧ s16 = .int .i64 (q : Int) ∧ ∃ cu, Own w wr [gi] [(gi, 3, cu)] ∧ cu.size = sz ∧ CurI cu r (jmax c xs q))
     case atStart => exact ⟨0, by omega, by omega, rfl, cu, O, HS1.out, HC1.out⟩
     case round =>
       obtain ⟨q, hq, hgq, rfl, cu, O, hsz, hcu⟩ := hrel
       have HG2 := Lib.hid hgq
       have HS2 := Lib.hid hsz
       have HC2 := Lib.hid hcu
       clear hgq hsz hcu
       by_cases hqt : q < m
       · have g1 : (q : Int) < m := by omega
         have g2 : (q : Int) < r := by omega
         have g3 : (0 : Int) ≤ q := by omega
         obtain ⟨ad, rfl, hb, hcc⟩ := HC.out (by rw [← HM.out]; omega)
         have cq : wr.cell? (ad.add q) = some (.int .i64 (xs.getD q 0)) := (O.keep.cellAt (by rw [add_block]; exact hb) (by rw [add_block]; simpa using HNE.out ad rfl (by omega))).trans (hcc q (by rw [← HM.out]; exact hqt))
         have cg : wr.cell? ⟨gi, q, none⟩ = some (.int .i64 (jmax c xs q (q : Int))) := ((O.get 0 rfl).cell q).trans (HC2.out.2 q (by omega))
         have HJ := Lib.hid (jmax_succ c xs q)
         have HN := Lib.hid (HC2.out.set q (max (jmax c xs q (q : Int)) (xs.getD q 0)) (by omega))
         have hqz : q < cu.size := by have := HC2.out.1; omega
         clear hb hcc
         generalize xs.getD q 0 = y at cq HJ HN
         generalize jmax c xs q (q : Int) = z at cg HJ HN
         go_wp2_with (refine own_store 0 q (.int .i64 (max z y)) (.tmp 29) (.tmp 28) O rfl rfl rfl rfl rfl rfl hqz rfl rfl (by kernel_rfl) rfl ?_; clear O cg cq; intro W O; simp only [kZ] at O)
         go_roundg (m - (q + 1))
         case measure => (have := HG2.out; omega)
         case rel => exact ⟨q + 1, by omega, rfl, by go_num, _, O, by rw [Array.size_setIfInBounds]; exact HS2.out, by rw [← HJ.out]; exact HN.out⟩
       · obtain rfl : m = q := by omega
         go_wp2
         go_roundg (1 - 1)
         case measure => (have := HG.out; omega)
         case rel => exact ⟨1, by omega, rfl, rfl, cu, O, HS2.out, by rw [if_neg (by decide)]; exact HC2.out⟩
   · obtain rfl : k = 1 := by omega
     go_wp2
     have HCF := Lib.hid hcu
     clear hcu
     go_returns
     exact ⟨rfl, ⟨cu, O.get 0 rfl, HS1.out, by rw [← HM.out]; have := HCF.out; rwa [if_neg (by decide)] at this⟩, O.keep⟩
end
open Go.RowKit Go.Maps Go.Deep
def maxL : List Int → Int
 | [] => 0
 | x :: l => max x (maxL l)
theorem maxL_nonneg : ∀ l : List Int, 0 ≤ maxL l
 | [] => Int.le_refl _
 | x :: l => by have := maxL_nonneg l; simp only [maxL]; omega
theorem maxL_le : ∀ {l : List Int} {x : Int}, x ∈ l → x ≤ maxL l
 | y :: l, x, h => by
   simp only [maxL]
   rcases List.mem_cons.1 h with rfl | h
   · omega
   · have := maxL_le h; omega
theorem maxL_mem : ∀ l : List Int, maxL l = 0 ∨ maxL l ∈ l
 | [] => .inl rfl
 | x :: l => by
   simp only [maxL]
   rcases maxL_mem l with h | h
   · by_cases hx : 0 ≤ x
     · exact .inr (by rw [h, show max x 0 = x by omega]; simp)
     · exact .inl (by rw [h]; omega)
   · by_cases hx : maxL l ≤ x
     · exact .inr (by rw [show max x (maxL l) = x by omega]; simp)
     · exact .inr (by rw [show max x (maxL l) = maxL l by omega]; simp [h])
theorem maxL_eq {l : List Int} {v : Int} (h0 : 0 ≤ v) (h1 : ∀ x ∈ l, x ≤ v) (h2 : v = 0 ∨ v ∈ l) : maxL l = v := by
 have h3 := maxL_nonneg l
 have h4 : maxL l ≤ v := by
   rcases maxL_mem l with h | h
   · omega
   · exact h1 _ h
 have h5 : v ≤ maxL l := by
   rcases h2 with h | h
   · omega
   · exact maxL_le h
 omega
theorem maxL_same {l m : List Int} (h : ∀ x, x ∈ l ↔ x ∈ m) : maxL l = maxL m :=
 maxL_eq (maxL_nonneg m) (fun x hx => maxL_le ((h x).1 hx)) ((maxL_mem m).imp id fun hm => (h _).2 hm)
theorem maxL_append : ∀ l m : List Int, maxL (l ++ m) = max (maxL l) (maxL m)
 | [], m => by have := maxL_nonneg m; simp only [List.nil_append, maxL]; omega
 | x :: l, m => by simp only [List.cons_append, maxL, maxL_append l m]; omega
theorem maxL_map_same {l m : List Int} (f : Int → Int) (h : ∀ x, x ∈ l ↔ x ∈ m) : maxL (l.map f) = maxL (m.map f) :=
 maxL_same fun x => by
   simp only [List.mem_map]
   exact ⟨fun ⟨y, hy, e⟩ => ⟨y, (h y).1 hy, e⟩, fun ⟨y, hy, e⟩ => ⟨y, (h y).2 hy, e⟩⟩
theorem maxL_bound {l : List Int} {f : Int → Int} {v : Int} (h0 : 0 ≤ v) (h : ∀ x ∈ l, f x ≤ v) : maxL (l.map f) ≤ v := by
 rcases maxL_mem (l.map f) with e | e
 · omega
 · obtain ⟨x, hx, e'⟩ := List.mem_map.1 e
   rw [← e']
   exact h x hx
def ckT (E : Nat → Ev) (rm : Int → Int) : Nat → Int → Int → Int
 | 0 => fun _ _ => 0
 | j + 1 => fun i w => if i = (j : Int) then maxL ((intoL E rm j).map fun x => ckT E rm j x w) + (if (E j).who = w then 1 else 0) else ckT E rm j i w
def clk (E : Nat → Ev) (rm : Int → Int) (i : Int) (w : Int) : Int := ckT E rm (i.toNat + 1) i w
section
variable {S : Sys} {E : Nat → Ev} {rm : Int → Int} {n j : Nat}
theorem ckT_stable (i w : Int) (h0 : 0 ≤ i) : ∀ j : Nat, i < j → ckT E rm j i w = clk E rm i w
 | 0, h => by omega
 | j + 1, h => by
   by_cases e : i = (j : Int)
   · subst e
     unfold clk
     rw [Int.toNat_natCast]
   · have := ckT_stable i w h0 j (by omega)
     rw [← this]
     show (if i = (j : Int) then _ else ckT E rm j i w) = _
     rw [if_neg e]
theorem clk_eq (hok : okE S (stN E j) (E j) = true) (w : Int) : clk E rm j w = maxL ((intoL E rm j).map fun x => clk E rm x w) + (if (E j).who = w then 1 else 0) := by
 have h1 : clk E rm j w = maxL ((intoL E rm j).map fun x => ckT E rm j x w) + (if (E j).who = w then 1 else 0) := by
   unfold clk
   rw [Int.toNat_natCast]
   show (if (j : Int) = (j : Int) then _ else _) = _
   rw [if_pos rfl]
 rw [h1]
 congr 2
 exact List.map_congr_left fun x hx => by
   have := intoL_lt hok hx
   exact ckT_stable x w this.1 j this.2
theorem ckT_nonneg (i w : Int) : ∀ j, 0 ≤ ckT E rm j i w
 | 0 => Int.le_refl _
 | j + 1 => by
   have h := ckT_nonneg i w j
   show 0 ≤ (if i = (j : Int) then _ else ckT E rm j i w)
   split
   · have := maxL_nonneg ((intoL E rm j).map fun x => ckT E rm j x w)
     split <;> omega
   · exact h
theorem clk_nonneg (i w : Int) : 0 ≤ clk E rm i w := ckT_nonneg i w _
theorem ckT_le (w : Int) : ∀ (j : Nat) (i : Int), ckT E rm j i w ≤ j
 | 0, i => Int.le_refl _
 | j + 1, i => by
   have h := ckT_le w j
   show (if i = (j : Int) then _ else ckT E rm j i w) ≤ _
   split
   · have := maxL_bound (l := intoL E rm j) (f := fun x => ckT E rm j x w) (v := j) (by omega) (fun x _ => h x)
     split <;> omega
   · have := h i; omega
theorem clk_le (w : Int) (i : Nat) : clk E rm i w ≤ i + 1 := by
 have := ckT_le (E := E) (rm := rm) w (i + 1) i
 unfold clk
 rw [Int.toNat_natCast]
 omega
end
def rowOf (r : Nat) (f : Int → Int) : List Int := (List.range r).map fun i => f (i : Nat)
theorem rowOf_length (r : Nat) (f : Int → Int) : (rowOf r f).length = r := by simp [rowOf]
theorem rowOf_get (r : Nat) (f : Int → Int) (i : Nat) (h : i < r) : (rowOf r f).getD i 0 = f i := by
 unfold rowOf
 rw [List.getD_eq_getElem?_getD, List.getElem?_map, List.getElem?_range h]
 rfl
theorem rowOf_congr {r : Nat} {f g : Int → Int} (h : ∀ i : Nat, i < r → f i = g i) : rowOf r f = rowOf r g :=
 List.map_congr_left fun i hi => h i (List.mem_range.1 hi)
def mxC (E : Nat → Ev) (rm : Int → Int) (l : List Int) (w : Int) : Int := maxL (l.map fun x => clk E rm x w)
def nowC (E : Nat → Ev) (rm : Int → Int) (j : Nat) (i : Int) (w : Int) : Int := mxC E rm (ownL (lkN E j) i) w
def keptB (E : Nat → Ev) (x : Int) : Bool := (E x.toNat).op == 5 || ((E x.toNat).op == 6 || (E x.toNat).op == 7)
def tkC (E : Nat → Ev) (rm : Int → Int) (r j : Nat) (i : Nat) (a : Int) : List Int :=
 if i = 0 then (if 0 ≤ a ∧ a < j ∧ keptB E a = true then rowOf r (clk E rm a) else [])
 else if i = 1 then (if pickL (isAdd E a) j = [] then [] else rowOf r (mxC E rm (natL (pickL (isAdd E a) j))))
 else (if freeL E a (aftN E a j) j = [] then [] else rowOf r (mxC E rm (natL (freeL E a (aftN E a j) j))))
theorem tkC_len (E : Nat → Ev) (rm : Int → Int) (r j i : Nat) (a : Int) : tkC E rm r j i a = [] ∨ (tkC E rm r j i a).length = r := by
 unfold tkC
 repeat' split
 all_goals first
   | exact .inl rfl
   | exact .inr (rowOf_length _ _)
def quietE (e : Ev) : Bool := (e.op == 8 || e.op == 9) || (e.op == 10 || e.op == 11)
def lkT (E : Nat → Ev) : Nat → Lk
 | 0 => lk0
 | j + 1 => if quietE (E j) = true then ownK (lkT E j) (E j).who j else nextK (lkT E j) (j : Int) (E j)
def LkEq (k k' : Lk) : Prop := (∀ a, k.rows 0 a = k'.rows 0 a) ∧ (∀ a, k.rows 1 a = k'.rows 1 a) ∧ (∀ a, k.ones 4 a = k'.ones 4 a) ∧ (∀ a, k.ones 5 a = k'.ones 5 a) ∧ ∀ a, k.ones 6 a = k'.ones 6 a
theorem quietE_iff (e : Ev) : quietE e = true ↔ e.op = 8 ∨ e.op = 9 ∨ e.op = 10 ∨ e.op = 11 := by
 simp only [quietE, Bool.or_eq_true, beq_iff_eq]
 omega
theorem lkT_eq (E : Nat → Ev) : ∀ j, LkEq (lkT E j) (lkN E j)
 | 0 => ⟨fun _ => rfl, fun _ => rfl, fun _ => rfl, fun _ => rfl, fun _ => rfl⟩
 | j + 1 => by
   obtain ⟨h0, h1, h4, h5, h6⟩ := lkT_eq E j
   show LkEq (if quietE (E j) = true then _ else _) (nextK (lkN E j) j (E j))
   by_cases hq : quietE (E j) = true
   · rw [if_pos hq]
     rw [quietE_iff] at hq
     refine ⟨fun a => ?_, fun a => ?_, fun a => ?_, fun a => ?_, fun a => ?_⟩
     · rw [nextK_r0, if_neg (by omega)]; exact h0 a
     · rw [nextK_r1, if_neg (by omega)]; exact h1 a
     · rw [nextK_o4]
       by_cases e : (E j).who = a
       · subst e; simp [ownK, updN, updI]
       · rw [if_neg e]
         simp only [ownK, updN, if_true]
         rw [updI_other _ _ _ _ (fun q => e q.symm)]
         exact h4 a
     · rw [nextK_o5, if_neg (by omega)]; simpa [ownK, updN] using h5 a
     · rw [nextK_o6, if_neg (by omega)]; simpa [ownK, updN] using h6 a
   · rw [if_neg hq]
     refine ⟨fun a => ?_, fun a => ?_, fun a => ?_, fun a => ?_, fun a => ?_⟩
     · rw [nextK_r0, nextK_r0, h0]
     · rw [nextK_r1, nextK_r1, h1]
     · rw [nextK_o4, nextK_o4, h4]
     · rw [nextK_o5, nextK_o5, h5]
     · rw [nextK_o6, nextK_o6, h6]
theorem ownL_eq {k k' : Lk} (h : LkEq k k') (who : Int) : ownL k who = ownL k' who := by
 unfold ownL
 rw [h.2.2.1, h.2.2.2.1]
theorem nextR_eq {k k' : Lk} (h : LkEq k k') (rm : Int → Int) (e : Ev) (h8 : e.op ≠ 8) (h11 : e.op ≠ 11) : nextR k rm e = nextR k' rm e := by
 unfold nextR
 rw [ownL_eq h, h.1, h.2.1, h.2.2.2.2, if_neg h8, if_neg h8, if_neg h11, if_neg h11]
theorem nextK_ln (k : Lk) (j : Int) (e : Ev) (i : Nat) (a : Int) : ((nextK k j e).rows i a).length ≤ (k.rows i a).length + 1 := by
 have h : ∀ (R : Nat → Int → List Int) (i' : Nat) (a' : Int) (l : List Int), l.length ≤ (R i' a').length + 1 → ((updN R i' (updI (R i') a' l)) i a).length ≤ (R i a).length + 1 := fun R i' a' l hl => by
   unfold updN
   by_cases e1 : i = i'
   · subst e1
     rw [if_pos rfl]
     by_cases e2 : a = a'
     · subst e2; rw [updI_same]; exact hl
     · rw [updI_other _ _ _ _ e2]; omega
   · rw [if_neg e1]; omega
 unfold nextK
 repeat' split
 all_goals first
   | exact h _ _ _ _ (by simp)
   | exact Nat.le_succ _
theorem lkT_len (E : Nat → Ev) (i : Nat) (a : Int) : ∀ j, ((lkT E j).rows i a).length ≤ j := by
 intro j
 induction j with
 | zero => exact Nat.le_refl _
 | succ j ih =>
   show ((if quietE (E j) = true then ownK (lkT E j) (E j).who j else nextK (lkT E j) (j : Int) (E j)).rows i a).length ≤ j + 1
   split
   · show ((lkT E j).rows i a).length ≤ j + 1
     omega
   · have := nextK_ln (lkT E j) (j : Int) (E j) i a
     omega
section
variable {S : Sys} {E : Nat → Ev} {rm : Int → Int} {r j : Nat}
theorem mx_split (l m : List Int) (w : Int) : mxC E rm (l ++ m) w = max (mxC E rm l w) (mxC E rm m w) := by
 unfold mxC
 rw [List.map_append, maxL_append]
theorem mx_into (w : Int) : mxC E rm (intoL E rm j) w = mxC E rm (nextR (lkN E j) rm (E j)) w :=
 maxL_map_same _ fun x => (sc_law _).2 x
theorem mx_quiet (h : (E j).op = 9 ∨ (E j).op = 10) (w : Int) : mxC E rm (intoL E rm j) w = nowC E rm j (E j).who w := by
 rw [mx_into]
 unfold nextR
 rw [if_neg (by omega), if_neg (by omega), if_neg (by omega), if_neg (by omega), List.append_nil]
 rfl
theorem mx_wait (h : (E j).op = 11) (w : Int) : mxC E rm (intoL E rm j) w = max (nowC E rm j (E j).who w) (mxC E rm (natL (pickL (isAdd E (E j).a) j)) w) := by
 rw [mx_into]
 unfold nextR
 rw [if_neg (by omega), if_neg (by omega), if_neg (by omega), if_pos h, mx_split, lk_r3]
 rfl
theorem mx_lock (h : (E j).op = 8) (w : Int) : mxC E rm (intoL E rm j) w = max (nowC E rm j (E j).who w) (mxC E rm (natL (freeL E (E j).a (aftN E (E j).a j) j)) w) := by
 rw [mx_into]
 unfold nextR
 rw [if_neg (by omega), if_neg (by omega), if_pos h, mx_split, lk_r2]
 rfl
theorem nthV_in {p : Nat → Bool} {m : Nat} (h : 0 ≤ nthV p j m) : ∃ i : Nat, nthV p j m = (i : Int) ∧ i < j ∧ p i = true := by
 unfold nthV at h ⊢
 cases hm : (pickL p j)[m]? with
 | none => rw [hm] at h; simp at h
 | some i =>
   have := (pickL_mem p j i).1 (List.mem_of_getElem? hm)
   exact ⟨i, rfl, this.1, this.2⟩
theorem shutN_op {E : Nat → Ev} {a i : Int} : ∀ {j : Nat}, shutN E a j = some i → (E i.toNat).op = 7
 | 0, h => by simp [shutN] at h
 | j + 1, h => by
   unfold shutN at h
   split at h
   · rename_i hq
     cases h
     rw [Int.toNat_natCast]
     exact hq.1
   · exact shutN_op h
theorem into_kept (hok : okE S (stN E j) (E j) = true) (hq : quietE (E j) = false) {x : Int} (hx : x ∈ intoL E rm j) : x ∈ ownL (lkN E j) (E j).who ∨ keptB E x = true := by
 obtain ⟨h1, h2⟩ := (intoL_mem hok x).1 hx
 rcases List.mem_append.1 h1 with h | h
 · exact .inl h
 · refine .inr ?_
   have hq' : ¬ ((E j).op = 8 ∨ (E j).op = 9 ∨ (E j).op = 10 ∨ (E j).op = 11) := fun h => by rw [(quietE_iff _).2 h] at hq; cases hq
   unfold refM at h
   split at h
   · split at h
     · cases hs : shutN E (E j).a j with
       | none => rw [hs] at h; simp at h
       | some i =>
         rw [hs] at h
         obtain rfl : x = i := by simpa using h
         simp [keptB, shutN_op hs]
     · obtain rfl := List.mem_singleton.1 h
       obtain ⟨i, e, _, hp⟩ := nthV_in h2
       rw [e]
       simp only [isSend, Bool.and_eq_true, decide_eq_true_eq] at hp
       simp [keptB, hp.1]
   · split at h
     · split at h
       · obtain rfl := List.mem_singleton.1 h
         obtain ⟨i, e, _, hp⟩ := nthV_in h2
         rw [e]
         simp only [isTake, Bool.and_eq_true, decide_eq_true_eq] at hp
         simp [keptB, hp.1]
       · simp at h
     · rw [if_neg (by omega), if_neg (by omega)] at h
       simp at h
theorem mx_other (hok : okE S (stN E j) (E j) = true) (hq : quietE (E j) = false) (w : Nat) (hw : w < r) :
   mxC E rm (intoL E rm j) w = max (nowC E rm j (E j).who w) (maxL ((intoL E rm j).map fun x => (tkC E rm r j 0 x).getD w 0)) := by
 have hk : ∀ x, x ∈ intoL E rm j → (tkC E rm r j 0 x).getD w 0 = if keptB E x = true then clk E rm x w else 0 := fun x hx => by
   have h := intoL_lt hok hx
   unfold tkC
   rw [if_pos rfl]
   by_cases hb : keptB E x = true
   · rw [if_pos ⟨h.1, h.2, hb⟩, if_pos hb, rowOf_get _ _ _ hw]
   · rw [if_neg (fun q => hb q.2.2), if_neg hb]; rfl
 have h0 := maxL_nonneg ((intoL E rm j).map fun x => (tkC E rm r j 0 x).getD w 0)
 have h0' : 0 ≤ nowC E rm j (E j).who w := maxL_nonneg _
 have sub : ∀ x, x ∈ ownL (lkN E j) (E j).who → x ∈ intoL E rm j := fun x hx => (intoL_mem hok x).2 ⟨List.mem_append.2 (.inl hx), (ownL_pos hx).1⟩
 refine maxL_eq (by omega) (fun y hy => ?_) ?_
 · obtain ⟨x, hx, rfl⟩ := List.mem_map.1 hy
   rcases into_kept hok hq hx with h | h
   · have h1 : clk E rm x w ≤ nowC E rm j (E j).who w := maxL_le (List.mem_map.2 ⟨x, h, rfl⟩)
     omega
   · have h1 : (tkC E rm r j 0 x).getD w 0 ≤ maxL ((intoL E rm j).map fun x => (tkC E rm r j 0 x).getD w 0) := maxL_le (List.mem_map.2 ⟨x, hx, rfl⟩)
     rw [hk x hx, if_pos h] at h1
     omega
 · by_cases hc : maxL ((intoL E rm j).map fun x => (tkC E rm r j 0 x).getD w 0) ≤ nowC E rm j (E j).who w
   · rw [show max (nowC E rm j (E j).who w) (maxL ((intoL E rm j).map fun x => (tkC E rm r j 0 x).getD w 0)) = nowC E rm j (E j).who w by omega]
     rcases maxL_mem ((ownL (lkN E j) (E j).who).map fun x => clk E rm x w) with h | h
     · exact .inl h
     · obtain ⟨x, hx, e⟩ := List.mem_map.1 h
       exact .inr (List.mem_map.2 ⟨x, sub x hx, e⟩)
   · rw [show max (nowC E rm j (E j).who w) (maxL ((intoL E rm j).map fun x => (tkC E rm r j 0 x).getD w 0)) = maxL ((intoL E rm j).map fun x => (tkC E rm r j 0 x).getD w 0) by omega]
     rcases maxL_mem ((intoL E rm j).map fun x => (tkC E rm r j 0 x).getD w 0) with h | h
     · exact .inl h
     · obtain ⟨x, hx, e⟩ := List.mem_map.1 h
       rw [hk x hx] at e
       split at e
       · exact .inr (List.mem_map.2 ⟨x, hx, e⟩)
       · omega
theorem clk_up (hok : okE S (stN E j) (E j) = true) : updI (mxC E rm (intoL E rm j)) (E j).who (mxC E rm (intoL E rm j) (E j).who + 1) = clk E rm j := by
 funext w
 rw [clk_eq hok]
 by_cases h : w = (E j).who
 · subst h
   rw [updI_same, if_pos rfl]
   rfl
 · rw [updI_other _ _ _ _ h, if_neg (fun q => h q.symm), Int.add_zero]
   rfl
theorem mx_one (x w : Int) : mxC E rm [x] w = clk E rm x w := by
 have := clk_nonneg (E := E) (rm := rm) x w
 simp only [mxC, List.map_cons, List.map_nil, maxL]
 omega
theorem now_self : nowC E rm (j + 1) (E j).who = clk E rm j := by
 funext w
 unfold nowC
 rw [ownL_lk]
 have e : lastN E (E j).who (j + 1) = some (j : Int) := by unfold lastN; rw [if_pos rfl]
 rw [e]
 exact mx_one _ _
theorem now_other {i : Int} (h1 : (E j).who ≠ i) (h2 : ¬ ((E j).op = 14 ∧ 0 < (E j).v ∧ (E j).v = i)) : nowC E rm (j + 1) i = nowC E rm j i := by
 funext w
 unfold nowC
 have e1 : lastN E i (j + 1) = lastN E i j := by
   show (if (E j).who = i then _ else _) = _
   rw [if_neg h1]
 have e2 : bornN E i (j + 1) = bornN E i j := by
   show (if (E j).op = 14 ∧ 0 < (E j).v ∧ (E j).v = i then _ else _) = _
   rw [if_neg h2]
 rw [ownL_lk, ownL_lk, e1, e2]
theorem lastN_none {i : Int} : ∀ {j : Nat}, (∀ k, k < j → (E k).who ≠ i) → lastN E i j = none
 | 0, _ => rfl
 | j + 1, h => by
   unfold lastN
   rw [if_neg (h j (by omega))]
   exact lastN_none fun k hk => h k (by omega)
theorem bornN_none {i : Int} : ∀ {j : Nat}, (∀ k, k < j → (E k).op = 14 → 0 < (E k).v → (E k).v ≠ i) → bornN E i j = none
 | 0, _ => rfl
 | j + 1, h => by
   unfold bornN
   rw [if_neg (fun q => h j (by omega) q.1 q.2.1 q.2.2)]
   exact bornN_none fun k hk => h k (by omega)
theorem stN_r_mono (E : Nat → Ev) : ∀ {k j : Nat}, k ≤ j → (stN E k).r ≤ (stN E j).r
 | k, 0, h => by obtain rfl : k = 0 := by omega
                 exact Int.le_refl _
 | k, j + 1, h => by
   by_cases e : k = j + 1
   · subst e; exact Int.le_refl _
   · have h1 := stN_r_mono E (k := k) (j := j) (by omega)
     have h2 := (nextE_r (stN E j) (E j)).1
     show _ ≤ (nextE (stN E j) (E j)).r
     omega
theorem fresh_none (h : OkAll S E j) {i : Int} (hi : (stN E j).r ≤ i) : lastN E i j = none ∧ bornN E i j = none := by
 refine ⟨lastN_none fun k hk e => ?_, bornN_none fun k hk h14 hv e => ?_⟩
 · have h1 := h k hk
   unfold okE headE at h1
   simp only [Bool.and_eq_true, decide_eq_true_eq] at h1
   have h2 := stN_r_mono E (show k ≤ j by omega)
   have := h1.1.2.1
   omega
 · have h1 := h k hk
   unfold okE bodyE at h1
   rw [if_pos h14] at h1
   simp only [Bool.and_eq_true, decide_eq_true_eq, Bool.or_eq_true] at h1
   have h2 := stN_r_mono E (show k + 1 ≤ j by omega)
   have h3 : (stN E (k + 1)).r = (stN E k).r + 1 := by
     show (nextE (stN E k) (E k)).r = _
     unfold nextE
     rw [if_pos h14, if_neg (by omega)]
   have := h1.2
   omega
theorem now_fresh (h : OkAll S E j) {i : Int} (hi : (stN E j).r ≤ i) : nowC E rm j i = fun _ => 0 := by
 funext w
 unfold nowC
 obtain ⟨h1, h2⟩ := fresh_none h hi
 rw [ownL_lk, h1, h2]
 rfl
theorem now_born (h : OkAll S E j) {i : Int} (hi : (stN E j).r ≤ i) (h14 : (E j).op = 14) (hv : 0 < (E j).v) (he : (E j).v = i) (hw : (E j).who ≠ i) : nowC E rm (j + 1) i = clk E rm j := by
 funext w
 unfold nowC
 obtain ⟨h1, h2⟩ := fresh_none h hi
 have e1 : lastN E i (j + 1) = none := by
   show (if (E j).who = i then _ else _) = _
   rw [if_neg hw, h1]
 have e2 : bornN E i (j + 1) = some (j : Int) := by
   show (if (E j).op = 14 ∧ 0 < (E j).v ∧ (E j).v = i then _ else _) = _
   rw [if_pos ⟨h14, hv, he⟩]
 rw [ownL_lk, e1, e2]
 exact mx_one _ _
theorem keptB_nat (j : Nat) : keptB E j = ((E j).op == 5 || ((E j).op == 6 || (E j).op == 7)) := by unfold keptB; rw [Int.toNat_natCast]
theorem tk_keep (h : keptB E j = true) : tkC E rm r (j + 1) 0 = updI (tkC E rm r j 0) (j : Int) (rowOf r (clk E rm j)) := by
 funext a
 by_cases e : a = (j : Int)
 · subst e
   rw [updI_same]
   unfold tkC
   rw [if_pos rfl, if_pos ⟨by omega, by omega, h⟩]
 · rw [updI_other _ _ _ _ e]
   unfold tkC
   rw [if_pos rfl, if_pos rfl]
   by_cases h2 : 0 ≤ a ∧ a < j ∧ keptB E a = true
   · rw [if_pos h2, if_pos ⟨h2.1, by omega, h2.2.2⟩]
   · rw [if_neg h2, if_neg (fun q => h2 ⟨q.1, by omega, q.2.2⟩)]
theorem tk_keep_not (h : keptB E j = false) : tkC E rm r (j + 1) 0 = tkC E rm r j 0 := by
 funext a
 unfold tkC
 rw [if_pos rfl, if_pos rfl]
 by_cases e : a = (j : Int)
 · subst e
   rw [if_neg (by rw [h]; simp), if_neg (by omega)]
 · by_cases h2 : 0 ≤ a ∧ a < j ∧ keptB E a = true
   · rw [if_pos h2, if_pos ⟨h2.1, by omega, h2.2.2⟩]
   · rw [if_neg h2, if_neg (fun q => h2 ⟨q.1, by omega, q.2.2⟩)]
end
open Go.RowKit Go.Maps Go.Deep
def RowR (r : Nat) (xs : List Int) : Prop := xs = [] ∨ xs.length = r
theorem jmax_at {r : Nat} {c : Int → Int} {xs : List Int} (hx : RowR r xs) (hc : ∀ w, 0 ≤ c w) {w : Nat} (hw : w < r) : jmax c xs xs.length w = max (c w) (xs.getD w 0) := by
 have := hc w
 rcases hx with rfl | hx
 · rw [List.length_nil, jmax_zero]
   simp only [List.getD_nil]
   omega
 · unfold jmax
   rw [if_pos (by omega), Int.toNat_natCast]
section
variable {S : Sys} {E : Nat → Ev} {rm : Int → Int} {r j : Nat}
theorem tkC_row (i : Nat) (a : Int) : RowR r (tkC E rm r j i a) := tkC_len E rm r j i a
theorem tkC_at1 (a : Int) {w : Nat} (hw : w < r) : (tkC E rm r j 1 a).getD w 0 = mxC E rm (natL (pickL (isAdd E a) j)) w := by
 unfold tkC
 rw [if_neg (by decide), if_pos rfl]
 split
 · rename_i h; rw [h]; rfl
 · exact rowOf_get _ _ _ hw
theorem tkC_at2 (a : Int) {w : Nat} (hw : w < r) : (tkC E rm r j 2 a).getD w 0 = mxC E rm (natL (freeL E a (aftN E a j) j)) w := by
 unfold tkC
 rw [if_neg (by decide), if_neg (by decide)]
 split
 · rename_i h; rw [h]; rfl
 · exact rowOf_get _ _ _ hw
theorem now_nonneg (i w : Int) : 0 ≤ nowC E rm j i w := maxL_nonneg _
theorem wait_now (h : (E j).op = 11) : ∀ w : Nat, w < r → (jmax (nowC E rm j (E j).who) (tkC E rm r j 1 (E j).a) (tkC E rm r j 1 (E j).a).length) (w : Int) = (mxC E rm (intoL E rm j)) (w : Int) :=
 fun w hw => by rw [jmax_at (tkC_row 1 _) (now_nonneg _) hw, tkC_at1 _ hw, mx_wait h]
theorem lock_now (h : (E j).op = 8) : ∀ w : Nat, w < r → (jmax (nowC E rm j (E j).who) (tkC E rm r j 2 (E j).a) (tkC E rm r j 2 (E j).a).length) (w : Int) = (mxC E rm (intoL E rm j)) (w : Int) :=
 fun w hw => by rw [jmax_at (tkC_row 2 _) (now_nonneg _) hw, tkC_at2 _ hw, mx_lock h]
def foldC (E : Nat → Ev) (rm : Int → Int) (r j q : Nat) (w : Int) : Int := max (nowC E rm j (E j).who w) (maxL (((intoL E rm j).take q).map fun x => (tkC E rm r j 0 x).getD w.toNat 0))
theorem fold_zero : foldC E rm r j 0 = nowC E rm j (E j).who := by
 funext w
 have := now_nonneg (E := E) (rm := rm) (j := j) (E j).who w
 simp only [foldC, List.take_zero, List.map_nil, maxL]
 omega
theorem fold_succ {q : Nat} (hq : q < (intoL E rm j).length) : ∀ w : Nat, w < r → (jmax (foldC E rm r j q) (tkC E rm r j 0 ((intoL E rm j).getD q 0)) (tkC E rm r j 0 ((intoL E rm j).getD q 0)).length) (w : Int) = (foldC E rm r j (q + 1)) (w : Int) :=
 fun w hw => by
   have h0 : ∀ w, 0 ≤ foldC E rm r j q w := fun w => by
     have := now_nonneg (E := E) (rm := rm) (j := j) (E j).who w
     unfold foldC
     omega
   rw [jmax_at (tkC_row 0 _) h0 hw]
   unfold foldC
   rw [List.take_succ_eq_append_getElem hq, List.map_append, maxL_append, List.getD_eq_getElem?_getD (l := intoL E rm j), List.getElem?_eq_getElem hq]
   have h1 := maxL_nonneg (((intoL E rm j).take q).map fun x => (tkC E rm r j 0 x).getD ((w : Int)).toNat 0)
   simp only [List.map_cons, List.map_nil, maxL, Option.getD_some, Int.toNat_natCast] at h1 ⊢
   omega
theorem fold_all (hok : okE S (stN E j) (E j) = true) (hq : quietE (E j) = false) : ∀ w : Nat, w < r → (foldC E rm r j (intoL E rm j).length) (w : Int) = (mxC E rm (intoL E rm j)) (w : Int) :=
 fun w hw => by
   rw [mx_other hok hq w hw]
   unfold foldC
   rw [List.take_length, Int.toNat_natCast]
theorem own_now (h : (E j).op = 9 ∨ (E j).op = 10) : ∀ w : Nat, w < r → (nowC E rm j (E j).who) (w : Int) = (mxC E rm (intoL E rm j)) (w : Int) := fun w _ => by rw [mx_quiet h]
theorem tk_add (h : (E j).op = 10) : tkC E rm r (j + 1) 1 = updI (tkC E rm r j 1) (E j).a (rowOf r (jmax (clk E rm j) (tkC E rm r j 1 (E j).a) (tkC E rm r j 1 (E j).a).length)) := by
 funext a
 by_cases e : a = (E j).a
 · subst e
   rw [updI_same]
   have hp : pickL (isAdd E (E j).a) (j + 1) = pickL (isAdd E (E j).a) j ++ [j] := by rw [pickL_succ, if_pos (by simp [isAdd, h])]
   show (if (1 : Nat) = 0 then _ else if (1 : Nat) = 1 then (if pickL (isAdd E (E j).a) (j + 1) = [] then [] else _) else _) = _
   rw [if_neg (by decide), if_pos rfl, if_neg (by rw [hp]; simp), hp]
   refine rowOf_congr fun w hw => ?_
   rw [jmax_at (tkC_row 1 _) (fun w => clk_nonneg _ w) hw, tkC_at1 _ hw, natL_append, mx_split, show natL [j] = [(j : Int)] from rfl, mx_one]
   omega
 · rw [updI_other _ _ _ _ e]
   have hp : pickL (isAdd E a) (j + 1) = pickL (isAdd E a) j := by rw [pickL_succ, if_neg (by simp only [isAdd, Bool.and_eq_true, decide_eq_true_eq]; exact fun q => e q.2.symm), List.append_nil]
   show (if (1 : Nat) = 0 then _ else if (1 : Nat) = 1 then (if pickL (isAdd E a) (j + 1) = [] then [] else _) else _) = _
   rw [hp]
   rfl
theorem tk_add_not (h : (E j).op ≠ 10) : tkC E rm r (j + 1) 1 = tkC E rm r j 1 := by
 funext a
 have hp : pickL (isAdd E a) (j + 1) = pickL (isAdd E a) j := by rw [pickL_succ, if_neg (by simp only [isAdd, Bool.and_eq_true, decide_eq_true_eq]; exact fun q => h q.1), List.append_nil]
 show (if (1 : Nat) = 0 then _ else if (1 : Nat) = 1 then (if pickL (isAdd E a) (j + 1) = [] then [] else _) else _) = _
 rw [hp]
 rfl
theorem free_succ (a : Int) (h8 : ¬ ((E j).op = 8 ∧ (E j).a = a)) : aftN E a (j + 1) = aftN E a j := by
 show (if (E j).op = 8 ∧ (E j).a = a then j else aftN E a j) = _
 rw [if_neg h8]
theorem free_not (a : Int) (m : Nat) (h9 : ¬ ((E j).op = 9 ∧ (E j).a = a)) : freeL E a m (j + 1) = freeL E a m j := by
 show pickL _ (j + 1) = _
 rw [pickL_succ, if_neg (by simp only [isFree, Bool.and_eq_true, decide_eq_true_eq]; exact fun q => h9 q.1), List.append_nil]
 rfl
theorem tk2 (j : Nat) (a : Int) : tkC E rm r j 2 a = if freeL E a (aftN E a j) j = [] then [] else rowOf r (mxC E rm (natL (freeL E a (aftN E a j) j))) := by
 unfold tkC
 rw [if_neg (by decide), if_neg (by decide)]
theorem tk_free (h : (E j).op = 9) : tkC E rm r (j + 1) 2 = updI (tkC E rm r j 2) (E j).a (rowOf r (jmax (clk E rm j) (tkC E rm r j 2 (E j).a) (tkC E rm r j 2 (E j).a).length)) := by
 funext a
 have h8 : ¬ ((E j).op = 8 ∧ (E j).a = a) := by omega
 by_cases e : a = (E j).a
 · subst e
   rw [updI_same, tk2 (j + 1), free_succ _ h8]
   have hp : freeL E (E j).a (aftN E (E j).a j) (j + 1) = freeL E (E j).a (aftN E (E j).a j) j ++ [j] := by
     have := aftN_le E (E j).a j
     show pickL _ (j + 1) = _
     rw [pickL_succ, if_pos (by simp [isFree, h, this])]
     rfl
   rw [if_neg (by rw [hp]; simp), hp]
   refine rowOf_congr fun w hw => ?_
   rw [jmax_at (tkC_row 2 _) (fun w => clk_nonneg _ w) hw, tkC_at2 _ hw, natL_append, mx_split, show natL [j] = [(j : Int)] from rfl, mx_one]
   omega
 · rw [updI_other _ _ _ _ e, tk2 (j + 1), free_succ _ h8, free_not _ _ (fun q => e q.2.symm), ← tk2]
theorem tk_lock (h : (E j).op = 8) : tkC E rm r (j + 1) 2 = updI (tkC E rm r j 2) (E j).a [] := by
 funext a
 have h9 : ¬ ((E j).op = 9 ∧ (E j).a = a) := by omega
 by_cases e : a = (E j).a
 · subst e
   rw [updI_same, tk2 (j + 1)]
   have e1 : aftN E (E j).a (j + 1) = j := by
     show (if (E j).op = 8 ∧ (E j).a = (E j).a then j else _) = _
     rw [if_pos ⟨h, rfl⟩]
   rw [e1, free_not _ _ h9, freeL_none _ _ _ _ (Nat.le_refl _), if_pos rfl]
 · rw [updI_other _ _ _ _ e, tk2 (j + 1), free_succ _ (fun q => e q.2.symm), free_not _ _ h9, ← tk2]
theorem tk_free_not (h8 : (E j).op ≠ 8) (h9 : (E j).op ≠ 9) : tkC E rm r (j + 1) 2 = tkC E rm r j 2 := by
 funext a
 rw [tk2 (j + 1), free_succ _ (fun q => h8 q.1), free_not _ _ (fun q => h9 q.1), ← tk2]
end
end Go.Proofs.Ytakmcpadkanggaa

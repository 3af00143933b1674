/-
 Part 7 of what this claim rests on.
-/
import Derived.Deep.CutBlock
import Derived.Test.YtakmcpadkanggaaOd6
namespace Go.Proofs.Ytakmcpadkanggaa
open Go.RowKit Go.Maps Go.Deep
section
variable {S : Sys} {E : Nat → Ev} {rm : Int → Int} {r j wn : Nat}
def nowN (E : Nat → Ev) (rm : Int → Int) (j : Nat) (i : Nat) : Int → Int := nowC E rm j (i : Int)
theorem note_now (h : OkAll S E (j + 1)) (hw : (E j).who = (wn : Int)) {nc : Nat → Int → Int} (hn : ∀ i, i ≠ wn → i < r → ∀ c : Nat, c < r → nc i c = nowN E rm j i c) (hs : ∀ c : Nat, c < r → nc wn c = clk E rm j c) : ∀ i, i < r → ∀ c : Nat, c < r → noteN r nc (clk E rm j) (E j) i c = nowN E rm (j + 1) i c := by
 intro i hi c hc
 have hj := h j (by omega)
 have hA : OkAll S E j := fun k hk => h k (by omega)
 have hwr := (ok_head hj).2.1
 have self : nowN E rm (j + 1) wn c = clk E rm j c := by
   unfold nowN
   rw [← hw, now_self]
 unfold noteN
 by_cases h14 : (E j).op = 14 ∧ 0 < (E j).v
 · rw [if_pos h14]
   have hv : (E j).v = (stN E j).r := by
     rcases ok_start hj h14.1 with e | e
     · omega
     · exact e.1
   by_cases e : i = (E j).v.toNat
   · have hiv : ((i : Nat) : Int) = (E j).v := by omega
     unfold updN
     rw [if_pos e, ← e]
     have hne : i ≠ wn := by omega
     have hz : ∀ q : Nat, q < r → nc i q = 0 := fun q hq => by
       rw [hn i hne hi q hq]
       unfold nowN
       rw [now_fresh hA (show (stN E j).r ≤ ((i : Nat) : Int) by omega)]
     have hb : nowN E rm (j + 1) i c = clk E rm j c := by
       unfold nowN
       rw [now_born hA (i := (i : Int)) (by omega) h14.1 h14.2 (by omega) (by omega)]
     rw [hb]
     unfold jmax
     rw [if_pos (by omega), Int.toNat_natCast, rowOf_get _ _ _ hc, hz c hc]
     have := clk_nonneg (E := E) (rm := rm) j c
     omega
   · unfold updN
     rw [if_neg e]
     by_cases e2 : i = wn
     · rw [e2, self, hs c hc]
     · rw [hn i e2 hi c hc]
       unfold nowN
       rw [now_other (by omega) (fun q => e (by have := q.2.2; omega))]
 · rw [if_neg h14]
   by_cases e2 : i = wn
   · rw [e2, self, hs c hc]
   · rw [hn i e2 hi c hc]
     unfold nowN
     rw [now_other (by omega) (fun q => h14 ⟨q.1, q.2.1⟩)]
theorem note_kc : ∀ i, i < 3 → noteK r (tkC E rm r j) (clk E rm j) (j : Int) (E j) i = tkC E rm r (j + 1) i := by
 have kb := keptB_nat (E := E) j
 intro i hi
 unfold noteK joinR
 by_cases h5 : (E j).op = 5 ∨ (E j).op = 6 ∨ (E j).op = 7
 · rw [if_pos h5]
   have hk : keptB E j = true := by rw [kb]; rcases h5 with h | h | h <;> simp [h]
   match i, hi with
   | 0, _ => rw [tk_keep hk]; rfl
   | 1, _ => rw [tk_add_not (by omega)]; rfl
   | 2, _ => rw [tk_free_not (by omega) (by omega)]; rfl
 · rw [if_neg h5]
   have hk : keptB E j = false := by
     rw [kb]
     simp only [Bool.or_eq_false_iff, beq_eq_false_iff_ne, ne_eq]
     omega
   by_cases h10 : (E j).op = 10
   · rw [if_pos h10]
     match i, hi with
     | 0, _ => rw [tk_keep_not hk]; rfl
     | 1, _ => rw [tk_add h10]; rfl
     | 2, _ => rw [tk_free_not (by omega) (by omega)]; rfl
   · rw [if_neg h10]
     by_cases h9 : (E j).op = 9
     · rw [if_pos h9]
       match i, hi with
       | 0, _ => rw [tk_keep_not hk]; rfl
       | 1, _ => rw [tk_add_not (by omega)]; rfl
       | 2, _ => rw [tk_free h9]; rfl
     · rw [if_neg h9]
       by_cases h8 : (E j).op = 8
       · rw [if_pos h8]
         match i, hi with
         | 0, _ => rw [tk_keep_not hk]; rfl
         | 1, _ => rw [tk_add_not (by omega)]; rfl
         | 2, _ => rw [tk_lock h8]; rfl
       · rw [if_neg h8]
         match i, hi with
         | 0, _ => rw [tk_keep_not hk]
         | 1, _ => rw [tk_add_not h10]
         | 2, _ => rw [tk_free_not h8 h9]
end
structure TS (w0 W : World) (L : List Ent) (Iv : World → List Nat → Prop) (base r gN : Nat) (nb mt : Nat → Nat) (X D F : List Nat) (nc : Nat → Int → Int) (kc : Nat → Int → List Int) (m : Nat) (rooms : Value) (p : Nat) (mb : Nat → Nat) (lk : Lk) (mL base2 : Nat) : Prop where
 own : Own w0 W [] L
 tk : ∃ f, TkAt W base r gN nb mt f X nc kc m
 la : ∃ fL, LinksAt W F rooms p mb fL lk mL base2
 iv : Iv W D
 bs : w0.heap.size ≤ base ∧ w0.heap.size ≤ base2
 dD : ∀ b ∈ D, w0.heap.size ≤ b ∧ b < W.heap.size
 dX : ∀ b ∈ D, b ∉ X
 dF : ∀ b ∈ D, b ∉ F ∧ b ≠ p
 xF : ∀ b ∈ X, b ∉ F ∧ b ≠ p
 lX : ∀ q ∈ L, q.1 ∉ X ∧ q.1 ∉ D ∧ q.1 ∉ F ∧ q.1 ≠ p
 hp : w0.heap.size ≤ p
def IvOk (w0 : World) (Iv : World → List Nat → Prop) : Prop := ∀ W u D S, Iv W D → Keeps W u S → (∀ b ∈ S, b ∉ D ∧ w0.heap.size ≤ b) → Iv u D
section
variable {w0 W u : World} {L : List Ent} {Iv : World → List Nat → Prop} {base r gN : Nat} {nb mt : Nat → Nat} {X D F S F' X' D' : List Nat} {nc nc' : Nat → Int → Int} {kc kc' : Nat → Int → List Int} {m m' : Nat} {rooms : Value} {p : Nat} {mb : Nat → Nat} {lk lk' : Lk} {mL mL' base2 : Nat}
theorem TS.ltX (h : TS w0 W L Iv base r gN nb mt X D F nc kc m rooms p mb lk mL base2) : ∀ b ∈ X, base ≤ b ∧ b < W.heap.size := by obtain ⟨f, ht⟩ := h.tk; exact ht.ltX
theorem TS.ltF (h : TS w0 W L Iv base r gN nb mt X D F nc kc m rooms p mb lk mL base2) : ∀ b ∈ F, base2 ≤ b ∧ b < W.heap.size := by obtain ⟨f, ht⟩ := h.la; exact ht.ltF
theorem TS.ltp (h : TS w0 W L Iv base r gN nb mt X D F nc kc m rooms p mb lk mL base2) : p < W.heap.size := by obtain ⟨f, ht⟩ := h.la; exact ht.blk.lt
theorem TS.fresh (h : TS w0 W L Iv base r gN nb mt X D F nc kc m rooms p mb lk mL base2) (hI : IvOk w0 Iv) (K : Keeps W u []) : TS w0 u L Iv base r gN nb mt X D F nc kc m rooms p mb lk mL base2 := by
 obtain ⟨f, ht⟩ := h.tk
 obtain ⟨fL, hl⟩ := h.la
 exact ⟨h.own.keeps K, ⟨f, ht.keptS K (by simp)⟩, ⟨fL, hl.kept K (by simp)⟩, hI _ _ _ _ h.iv K (by simp), h.bs, fun b hb => ⟨(h.dD b hb).1, Nat.lt_of_lt_of_le (h.dD b hb).2 K.size⟩, h.dX, h.dF, h.xF, h.lX, h.hp⟩
theorem TS.add (h : TS w0 W L Iv base r gN nb mt X D F nc kc m rooms p mb lk mL base2) (hI : IvOk w0 Iv) (K : Keeps W u []) {q : Ent} (O : Own w0 u [] (q :: L)) (hq : W.heap.size ≤ q.1) : TS w0 u (q :: L) Iv base r gN nb mt X D F nc kc m rooms p mb lk mL base2 := by
 have h1 := h.fresh hI K
 refine ⟨O, h1.tk, h1.la, h1.iv, h1.bs, h1.dD, h1.dX, h1.dF, h1.xF, fun x hx => ?_, h1.hp⟩
 rcases List.mem_cons.1 hx with rfl | hx
 · refine ⟨fun hm => ?_, fun hm => ?_, fun hm => ?_, fun e => ?_⟩
   · have := (h.ltX _ hm).2; omega
   · have := (h.dD _ hm).2; omega
   · have := (h.ltF _ hm).2; omega
   · have := h.ltp; omega
 · exact h1.lX x hx
theorem TS.drop_ (h : TS w0 W L Iv base r gN nb mt X D F nc kc m rooms p mb lk mL base2) (n : Nat) : TS w0 W (L.drop n) Iv base r gN nb mt X D F nc kc m rooms p mb lk mL base2 :=
 ⟨h.own.drop_ n, h.tk, h.la, h.iv, h.bs, h.dD, h.dX, h.dF, h.xF, fun q hq => h.lX q (List.mem_of_mem_drop hq), h.hp⟩
theorem TS.wrote (h : TS w0 W L Iv base r gN nb mt X D F nc kc m rooms p mb lk mL base2) (hI : IvOk w0 Iv) {g : Nat} (K : Keeps W u [g]) {L' : List Ent} (O : Own w0 u [] L') (hg : ∃ q ∈ L, q.1 = g) (hL : L'.map (·.1) = L.map (·.1)) : TS w0 u L' Iv base r gN nb mt X D F nc kc m rooms p mb lk mL base2 := by
 obtain ⟨f, ht⟩ := h.tk
 obtain ⟨fL, hl⟩ := h.la
 obtain ⟨q0, hq0, rfl⟩ := hg
 obtain ⟨a1, a2, a3, a4⟩ := h.lX q0 hq0
 refine ⟨O, ⟨f, ht.keptS K fun b hb => by rw [List.mem_singleton.1 hb]; exact a1⟩, ⟨fL, hl.kept K fun b hb => by rw [List.mem_singleton.1 hb]; exact ⟨a3, a4⟩⟩, hI _ _ _ _ h.iv K (fun b hb => by rw [List.mem_singleton.1 hb]; exact ⟨a2, by rcases Nat.lt_or_ge q0.1 w0.heap.size with hl | hl; (· exact absurd (h.own.new q0 hq0 hl) (by simp)); (· exact hl)⟩), h.bs, fun b hb => ⟨(h.dD b hb).1, Nat.lt_of_lt_of_le (h.dD b hb).2 K.size⟩, h.dX, h.dF, h.xF, fun x hx => ?_, h.hp⟩
 have hm : x.1 ∈ L.map (·.1) := by rw [← hL]; exact List.mem_map.2 ⟨x, hx, rfl⟩
 obtain ⟨y, hy, e⟩ := List.mem_map.1 hm
 rw [← e]
 exact h.lX y hy
theorem TS.tick (h : TS w0 W L Iv base r gN nb mt X D F nc kc m rooms p mb lk mL base2) (hI : IvOk w0 Iv) (K : Keeps W u X) {f : Nat → Int → Option Value} (T : TkAt u base r gN nb mt f X' nc' kc' m') (hX : ∀ b ∈ X', b ∈ X ∨ W.heap.size ≤ b) : TS w0 u L Iv base r gN nb mt X' D F nc' kc' m' rooms p mb lk mL base2 := by
 obtain ⟨fL, hl⟩ := h.la
 have hlt : ∀ b ∈ X, b < w0.heap.size → False := fun b hb hlt => by
   have := (h.ltX b hb).1
   have := h.bs.1
   omega
 refine ⟨h.own.wrote K (fun b hb hb' => (hlt b hb hb').elim) (fun q hq => (h.lX q hq).1), ⟨f, T⟩, ⟨fL, hl.kept K fun b hb => h.xF b hb⟩, hI _ _ _ _ h.iv K (fun b hb => ⟨fun hm => h.dX b hm hb, by have := (h.ltX b hb).1; have := h.bs.1; omega⟩), h.bs, fun b hb => ⟨(h.dD b hb).1, Nat.lt_of_lt_of_le (h.dD b hb).2 K.size⟩, fun b hb hm => ?_, h.dF, fun b hb => ?_, fun q hq => ?_, h.hp⟩
 · rcases hX b hm with h1 | h1
   · exact h.dX b hb h1
   · have := (h.dD b hb).2; omega
 · rcases hX b hb with h1 | h1
   · exact h.xF b h1
   · refine ⟨fun hm => ?_, fun e => ?_⟩
     · have := (h.ltF b hm).2; omega
     · have := h.ltp; omega
 · obtain ⟨a1, a2, a3, a4⟩ := h.lX q hq
   refine ⟨fun hm => ?_, a2, a3, a4⟩
   rcases hX _ hm with h1 | h1
   · exact a1 h1
   · have := (h.own.blk q hq).lt; omega
theorem TS.link (h : TS w0 W L Iv base r gN nb mt X D F nc kc m rooms p mb lk mL base2) (hI : IvOk w0 Iv) (K : Keeps W u F) {fL : Nat → Int → Option Value} (LA : LinksAt u F' rooms p mb fL lk' mL' base2) (hF : ∀ b ∈ F', b ∈ F ∨ W.heap.size ≤ b) : TS w0 u L Iv base r gN nb mt X D F' nc kc m rooms p mb lk' mL' base2 := by
 obtain ⟨f, ht⟩ := h.tk
 refine ⟨h.own.wrote K (fun b hb hb' => ?_) (fun q hq => (h.lX q hq).2.2.1), ⟨f, ht.keptS K fun b hb hm => (h.xF b hm).1 hb⟩, ⟨fL, LA⟩, hI _ _ _ _ h.iv K (fun b hb => ⟨fun hm => (h.dF b hm).1 hb, by have := (h.ltF b hb).1; have := h.bs.2; omega⟩), h.bs, fun b hb => ⟨(h.dD b hb).1, Nat.lt_of_lt_of_le (h.dD b hb).2 K.size⟩, h.dX, fun b hb => ⟨fun hm => ?_, (h.dF b hb).2⟩, fun b hb => ⟨fun hm => ?_, (h.xF b hb).2⟩, fun q hq => ?_, h.hp⟩
 · have := (h.ltF b hb).1
   have := h.bs.2
   omega
 · rcases hF b hm with h1 | h1
   · exact (h.dF b hb).1 h1
   · have := (h.dD b hb).2; omega
 · rcases hF b hm with h1 | h1
   · exact (h.xF b hb).1 h1
   · have := (h.ltX b hb).2; omega
 · obtain ⟨a1, a2, a3, a4⟩ := h.lX q hq
   refine ⟨a1, a2, fun hm => ?_, a4⟩
   rcases hF _ hm with h1 | h1
   · exact a3 h1
   · have := (h.own.blk q hq).lt; omega
theorem TS.client {Iv' : World → List Nat → Prop} (h : TS w0 W L Iv base r gN nb mt X D F nc kc m rooms p mb lk mL base2) (K : Keeps W u D) (hv : Iv' u D') (hD : ∀ b ∈ D', b ∈ D ∨ W.heap.size ≤ b) (hlt : ∀ b ∈ D', b < u.heap.size) : TS w0 u L Iv' base r gN nb mt X D' F nc kc m rooms p mb lk mL base2 := by
 obtain ⟨f, ht⟩ := h.tk
 obtain ⟨fL, hl⟩ := h.la
 refine ⟨h.own.wrote K (fun b hb hb' => ?_) (fun q hq => (h.lX q hq).2.1), ⟨f, ht.keptS K fun b hb => h.dX b hb⟩, ⟨fL, hl.kept K fun b hb => h.dF b hb⟩, hv, h.bs, fun b hb => ⟨?_, hlt b hb⟩, fun b hb hm => ?_, fun b hb => ⟨fun hm => ?_, fun e => ?_⟩, h.xF, fun q hq => ?_, h.hp⟩
 · have := (h.dD b hb).1; omega
 · rcases hD b hb with h1 | h1
   · exact (h.dD b h1).1
   · have := h.own.keep.size; omega
 · rcases hD b hb with h1 | h1
   · exact h.dX b h1 hm
   · have := (h.ltX b hm).2; omega
 · rcases hD b hb with h1 | h1
   · exact (h.dF b h1).1 hm
   · have := (h.ltF b hm).2; omega
 · rcases hD b hb with h1 | h1
   · exact (h.dF b h1).2 e
   · have := h.ltp; omega
 · obtain ⟨a1, a2, a3, a4⟩ := h.lX q hq
   refine ⟨a1, fun hm => ?_, a3, a4⟩
   rcases hD _ hm with h1 | h1
   · exact a2 h1
   · have := (h.own.blk q hq).lt; omega
theorem TkAt.nowsame2 {f : Nat → Int → Option Value} (h : TkAt W base r gN nb mt f X nc kc m) (e : ∀ i, i < r → ∀ j : Nat, j < r → nc i j = nc' i j) (e2 : ∀ i, i < 3 → kc i = kc' i) : TkAt W base r gN nb mt f X nc' kc' m :=
 { h.nowsame e with kept := fun i hi a => by have := h.kept i hi a; rw [e2 i hi] at this; exact this }
theorem TS.same (h : TS w0 W L Iv base r gN nb mt X D F nc kc m rooms p mb lk mL base2) (e : ∀ i, i < r → ∀ j : Nat, j < r → nc i j = nc' i j) (e2 : ∀ i, i < 3 → kc i = kc' i) : TS w0 W L Iv base r gN nb mt X D F nc' kc' m rooms p mb lk mL base2 := by
 obtain ⟨f, ht⟩ := h.tk
 exact { h with tk := ⟨f, ht.nowsame2 e e2⟩ }
theorem TS.mono (h : TS w0 W L Iv base r gN nb mt X D F nc kc m rooms p mb lk mL base2) (hm : m ≤ m') (hL : mL ≤ mL') : TS w0 W L Iv base r gN nb mt X D F nc kc m' rooms p mb lk mL' base2 := by
 obtain ⟨f, ht⟩ := h.tk
 obtain ⟨fL, hl⟩ := h.la
 exact { h with tk := ⟨f, ht.mono hm⟩, la := ⟨fL, hl.mono hL⟩ }
end
open Go.RowKit Go.Maps Go.Deep
theorem Own.rebase {w0 w W : World} {L : List Ent} (O : Own w W [] L) (K : Keeps w0 w []) : Own w0 W [] L := ⟨K.trans O.keep (by simp), O.blk, fun e he hlt => O.new e he (Nat.lt_of_lt_of_le hlt K.size), O.nd⟩
def rowsZ (r : Nat) (nb : Nat → Nat) (k : Nat) : Array Value := (Array.range r).map fun i => if i < k then .slice (some ⟨nb i, 0, none⟩) r r else .slice none 0 0
theorem rowsZ_size (r : Nat) (nb : Nat → Nat) (k : Nat) : (rowsZ r nb k).size = r := by simp [rowsZ]
theorem rowsZ_set (r : Nat) (nb : Nat → Nat) (k g : Nat) : (rowsZ r nb k).setIfInBounds k (.slice (some ⟨g, 0, none⟩) r r) = rowsZ r (updN nb k g) (k + 1) := by
 apply Array.ext_getElem?
 intro i
 rw [Array.getElem?_setIfInBounds, rowsZ_size]
 by_cases hi : i < r
 · by_cases e : k = i
   · subst e; rw [if_pos rfl, if_pos hi]; simp [rowsZ, hi, updN]
   · rw [if_neg e]
     by_cases h2 : i < k
     · simp [rowsZ, hi, h2, show i < k + 1 by omega, updN, show ¬ i = k from fun q => e q.symm]
     · simp [rowsZ, hi, h2, show ¬ i < k + 1 by omega]
 · by_cases e : k = i
   · subst e; rw [if_pos rfl, if_neg hi]; simp [rowsZ, hi]
   · rw [if_neg e]; simp [rowsZ, hi]
theorem rowsZ_all (r : Nat) (nb : Nat → Nat) : rowsZ r nb r = rowsA r nb := by
 unfold rowsZ rowsA
 apply Array.ext_getElem?
 intro i
 by_cases hi : i < r
 · simp [hi]
 · simp [hi]
section
variable {ops : Array Oper} {rest : List Oper} {o : Oper} {a : Act} {w W : World} {Q : Exit → Act → World → Prop} {S : List Nat} {L : List Ent} {x : Operand}
theorem own_makeIK (d n : Nat) (O : Own w W S L) (_hd : o.dst = some d) (hgd : o.guard = none) (ho : o.op = .makeSlice 25 x x) (hx : a.eval x = .int .i64 (n : Int)) (hn : n ≤ 1000000)
   (h : ∀ u g, Own w u S ((g, 3, arrI n fun _ => 0) :: L) → Keeps W u [] → W.heap.size ≤ g → wpList Try.prog ops Q rest (a.put o.dst (.slice (some ⟨g, 0, none⟩) n n)) u) : wpList Try.prog ops Q (o :: rest) a W := by
 refine wpList_plain hgd fun K hK => ?_
 unfold Oper.wp execOp
 simp only [ho, hx, Sem.run_bind, run_make_row' 25 3 (.int .i64 0) 8 Try.underlying25 info3' rfl .i64 .i64 n (by omega) (by omega), Result.andThen_ok, Sem.run_pure]
 have k := (Keeps.refl W []).alloc (.cells (arrI n fun _ => 0) 3)
 refine hK _ _ ?_
 rw [made_I]
 exact h _ _ (O.add k (Blk.new _ _ _)) k (Nat.le_refl _)
theorem info25' : (Try.prog.info? 25).map (fun i => (i.zero, i.size, i.bytes)) = some (some (.slice none 0 0), 1, 24) := by kernel_rfl
theorem own_makeSK (d n : Nat) (O : Own w W S L) (_hd : o.dst = some d) (hgd : o.guard = none) (ho : o.op = .makeSlice 68 x x) (hx : a.eval x = .int .i64 (n : Int)) (hn : n ≤ 1000000)
   (h : ∀ u g, Own w u S ((g, 25, rowsZ n (fun _ => 0) 0) :: L) → Keeps W u [] → W.heap.size ≤ g → wpList Try.prog ops Q rest (a.put o.dst (.slice (some ⟨g, 0, none⟩) n n)) u) : wpList Try.prog ops Q (o :: rest) a W := by
 refine wpList_plain hgd fun K hK => ?_
 unfold Oper.wp execOp
 simp only [ho, hx, Sem.run_bind, run_make_row' 68 25 (.slice none 0 0) 24 Try.underlying68 info25' rfl .i64 .i64 n (by omega) (by omega), Result.andThen_ok, Sem.run_pure]
 have k := (Keeps.refl W []).alloc (.cells (rowsZ n (fun _ => 0) 0) 25)
 refine hK _ _ ?_
 have e : madeCells #[Value.slice none 0 0] n = rowsZ n (fun _ => 0) 0 := by
   apply Array.ext_getElem?
   intro j
   by_cases hj : j < n
   · simp [madeCells, rowsZ, hj, Nat.mod_one]
   · simp [madeCells, rowsZ, hj]
 rw [e]
 exact h _ _ (O.add k (Blk.new _ _ _)) k (Nat.le_refl _)
end
def FnOk (fn : Nat) : Prop := ∀ (args : Array Value) (w : World), (callFunc fn args).run Try.prog w = .ok (.enter fn args) w
theorem wpList_call_fn {ops : Array Oper} {rest : List Oper} {o : Oper} {a : Act} {W : World} {Q : Exit → Act → World → Prop} {x y0 y1 : Operand} {ats : Array TypeId} {fn : Nat} {caps : Array Value} (v0 v1 : Value) (hgd : o.guard = none) (ho : o.op = .call { callee := .value x, args := #[y0, y1], argTypes := ats }) (hx : a.eval x = .func (.func fn) #[] caps) (h0 : a.eval y0 = v0) (h1 : a.eval y1 = v1) (hf : FnOk fn)
   (h : Calls Try.prog fn (#[v0, v1] ++ caps) W fun e u => ∃ v, e = .returned v ∧ wpList Try.prog ops Q rest (a.put o.dst v) u) : wpList Try.prog ops Q (o :: rest) a W := by
 refine wpList_plain hgd fun K hK => ?_
 have hr : (execOp a.eval o).run Try.prog W = .ok (.enter fn (#[v0, v1] ++ caps)) W := by
   unfold execOp
   simp only [ho, resolve, hx, Deferred.ofValue, invoke, Sem.run_bind, Sem.run_pure, Result.andThen_ok, List.map_toArray, List.map_cons, List.map_nil, h0, h1, Array.empty_append]
   exact hf (#[v0, v1] ++ caps) W
 unfold Oper.wp
 rw [hr, Oper.upon_enter]
 exact h.mono fun e u ⟨v, he, hw⟩ => by subst he; exact hK _ _ hw
section
variable {w0 w : World} {S : Sys} {A : Option Addr} {c : Nat} {R : Option Addr} {d m r : Nat} {E : Nat → Ev} {B : Option Addr} {cb : Nat}
theorem ts_start {W u : World} {Iv : World → List Nat → Prop} {gN b4 p : Nat} {nb mt : Nat → Nat} {F D0 : List Nat} {mb : Nat → Nat} {fL : Nat → Int → Option Value} {rm : Int → Int} {rooms : Value} (K0 : Keeps w0 w []) (O : Own w W [] [(gN, 25, rowsA r nb), (b4, 27, sysV S A c R d)]) (hI : IvOk w0 Iv) (h0 : Iv w D0) (hD0 : ∀ b ∈ D0, w0.heap.size ≤ b ∧ b < w.heap.size)
   (hgN : w.heap.size ≤ gN) (hb4 : w.heap.size ≤ b4) (hb4g : b4 < gN) (hrow : ∀ i, i < r → ClkAt W (nb i) r (fun _ => 0) ∧ b4 < nb i) (hne : ∀ i j, i < r → j < r → i ≠ j → nb i ≠ nb j)
   (hmt : ∀ i, i < 3 → MapV W (mt i) 0 (fun _ => none) ∧ b4 < mt i) (hmn : ∀ i j, i < 3 → j < 3 → i ≠ j → mt i ≠ mt j) (KW : Keeps W u []) (LA : LinksAt u F rooms p mb fL lk0 0 W.heap.size) (hp : W.heap.size ≤ p) :
   ∃ X, TS w0 u [(b4, 27, sysV S A c R d)] Iv w.heap.size r gN nb mt X D0 F (nowN E rm 0) (tkC E rm r 0) 0 rooms p mb lk0 0 W.heap.size := by
 have hw := K0.size
 have hgl := (O.get 0 rfl).lt
 have hbl := (O.get 1 rfl).lt
 have hX : ∀ b ∈ gN :: mt 0 :: mt 1 :: mt 2 :: (List.range r).map nb, b4 < b ∧ b < W.heap.size := fun b hb => by
   simp only [List.mem_cons, List.mem_map, List.mem_range] at hb
   rcases hb with rfl | rfl | rfl | rfl | ⟨i, hi, rfl⟩
   · exact ⟨hb4g, hgl⟩
   · exact ⟨(hmt 0 (by decide)).2, (hmt 0 (by decide)).1.lt⟩
   · exact ⟨(hmt 1 (by decide)).2, (hmt 1 (by decide)).1.lt⟩
   · exact ⟨(hmt 2 (by decide)).2, (hmt 2 (by decide)).1.lt⟩
   · exact ⟨(hrow i hi).2, (hrow i hi).1.lt⟩
 have hF : ∀ b ∈ F, W.heap.size ≤ b := fun b hb => (LA.ltF b hb).1
 have hkn : ∀ i a, rowV (fun _ _ => none) i a = Value.slice none 0 0 := fun _ _ => rfl
 refine ⟨gN :: mt 0 :: mt 1 :: mt 2 :: (List.range r).map nb, ((O.rebase K0).drop_ 1).keeps KW, ⟨fun _ _ => none, (O.get 0 rfl).keeps KW (by simp), fun i hi => ?_, fun i hi => (hmt i hi).1.keeps KW (by simp), fun i hi a => ?_, by simp, fun i hi => ?_, fun i hi => ?_, (fun i hi a g hg => by cases hg), fun b hb => ⟨by have := (hX b hb).1; omega, by have := (hX b hb).2; have := KW.size; omega⟩, hne, hmn, (fun i hi a g hg => by cases hg)⟩, ⟨fL, LA⟩, hI _ _ _ _ h0 (O.keep.trans KW (by simp)) (by simp), ⟨hw, by omega⟩, fun b hb => ⟨(hD0 b hb).1, by have := (hD0 b hb).2; have := KW.size; omega⟩, fun b hb hm => ?_, fun b hb => ⟨fun hm => ?_, fun e => ?_⟩, fun b hb => ⟨fun hm => ?_, fun e => ?_⟩, fun q hq => ?_, by omega⟩
 · refine ((hrow i hi).1.keeps KW (by simp)).same fun j hj => ?_
   rfl
 · rw [hkn]
   have e : tkC E rm r 0 i a = [] := by
     unfold tkC
     split
     · rw [if_neg (by omega)]
     · split
       · rw [if_pos (by simp [pickL])]
       · rw [if_pos (by simp [freeL, pickL])]
   rw [e]
   exact HRow.nil _ _
 · simp only [List.mem_cons, List.mem_map, List.mem_range]
   exact .inr (.inr (.inr (.inr ⟨i, hi, rfl⟩)))
 · match i, hi with
   | 0, _ => simp
   | 1, _ => simp
   | 2, _ => simp
 · have := (hD0 b hb).2; have := (hX b hm).1; omega
 · have := (hD0 b hb).2; have := hF b hm; omega
 · have := (hD0 b hb).2; omega
 · have := (hX b hb).2; have := hF b hm; omega
 · have := (hX b hb).2; omega
 · rw [List.mem_singleton.1 hq]
   refine ⟨fun hm => ?_, fun hm => ?_, fun hm => ?_, fun e => ?_⟩
   · have := (hX _ hm).1; omega
   · have := (hD0 _ hm).2; simp only at this; omega
   · have := hF _ hm; simp only at this; omega
   · simp only at e; omega
def SeePost (Iv : World → List Nat → Prop) (b : Bool) (u : World) (D : List Nat) (e : Ending) (u' : World) : Prop :=
 e = .returned (.bool b) ∧ (∃ D', Iv u' D' ∧ (∀ q ∈ D', q ∈ D ∨ u.heap.size ≤ q) ∧ ∀ q ∈ D', q < u'.heap.size) ∧ Keeps u u' D
def TicksPost (Inv : Nat → World → List Nat → Prop) (cont : Nat → Bool) (w0 : World) (m : Nat) (e : Ending) (u : World) : Prop :=
 e = .returned (.tuple #[]) ∧ Keeps w0 u [] ∧ ∃ k D, Inv k u D ∧ ((k = m ∧ ∀ i, i < m → cont i = true) ∨ ∃ i, k = i + 1 ∧ i < m ∧ cont i = false ∧ ∀ q, q < i → cont q = true)
set_option maxRecDepth 100000 in
set_option maxHeartbeats 4000000 in
theorem ticks_any (fn : Nat) (caps : Array Value) (Inv : Nat → World → List Nat → Prop) (cont : Nat → Bool) (D0 : List Nat) (K0 : Keeps w0 w []) (hS : SysIn w0 S A c R d) (hE : EvsAt w0 B m E) (hrm : ∀ q, q < S.nr → 1 ≤ S.rm q ∧ S.rm q ≤ 1000000) (hok : OkAll S E m) (hm : m ≤ 40000) (hwf : ∀ i, i < m → (Lit.int .i64 (E i).a).wf = true)
   (hr : (stN E m).r ≤ r) (hr2 : r ≤ 1000000) (hfn : FnOk fn) (hI : ∀ k, IvOk w0 (Inv k)) (h0 : Inv 0 w D0) (hD0 : ∀ b ∈ D0, w0.heap.size ≤ b ∧ b < w.heap.size)
   (hC : ∀ k, k < m → ∀ u D g, Inv k u D → g ∉ D → ClkAt u g r (clk E (rmS S) k) → Calls Try.prog fn (#[.int .i64 (k : Int), .slice (some ⟨g, 0, none⟩) r r] ++ caps) u (SeePost (Inv (k + 1)) (cont k) u D)) :
   Calls Try.prog 72 #[.agg (sysV S A c R d), .slice B m cb, .int .i64 (r : Int), .func (.func fn) #[] caps] w (TicksPost Inv cont w0 m) := by
 have O := Own.start w []
 have HE := Lib.hid hE
 have HS := Lib.hid hS
 have HK0 := Lib.hid K0
 have HI := Lib.hid hI
 have H0 := Lib.hid h0
 have HD0 := Lib.hid hD0
 have HOK := Lib.hid hok
 have HRM := Lib.hid hrm
 have HWF := Lib.hid hwf
 have HR := Lib.hid hr
 have HC := Lib.hid hC
 have HFN := Lib.hid hfn
 clear hE hS K0 hI h0 hD0 hok hrm hwf hr hC hfn
 go_enter Try.func72, Try.ntmps72
 go_wp2_with (first
   | (have hws := O.keep.size; refine own_boxK 4 (sysV S A c R d) O rfl rfl rfl rfl ?_; clear O; intro W b4 O K hb; have HB4 := Lib.hid (Nat.le_trans hws hb); clear hb K hws; simp only [Act.put, kA, kZ, kS])
   | (have hws := O.keep.size; have hb4 := O.lt 0 rfl; refine own_makeSK 20 r O rfl rfl rfl rfl hr2 ?_; clear O; intro W gN O K hb; have HGN := Lib.hid (And.intro (Nat.le_trans hws hb) (show b4 < gN by omega)); clear K hb hws hb4; simp only [Act.put, kA, kZ, kS]))
 go_loopg [23] r (fun g s23 wr => ∃ (k : Nat) (nb : Nat → Nat), k ≤ r ∧ g = r - k ∧ s23 = .int .i64 (k : Int) ∧ Own w wr [] [(gN, 25, rowsZ r nb k), (b4, 27, sysV S A c R d)] ∧ (∀ i, i < k → ClkAt wr (nb i) r (fun _ => 0) ∧ b4 < nb i) ∧ ∀ i j, i < k → j < k → i ≠ j → nb i ≠ nb j)
 case atStart => exact ⟨0, fun _ => 0, by omega, by omega, rfl, O, fun i hi => by omega, fun i j hi => by omega⟩
 case round =>
   obtain ⟨k, nb, hk, hgk, rfl, O, hrow, hne⟩ := hrel
   have HG := Lib.hid hgk
   have HROW := Lib.hid hrow
   have HNE := Lib.hid hne
   clear hgk hrow hne
   by_cases hlt : k < r
   · have g1 : (k : Int) < r := by omega
     have g0 : (0 : Int) ≤ k := by omega
     go_wp2_with (first
       | (have hb4 := O.lt 1 rfl; refine own_makeIK 29 r O rfl rfl rfl rfl hr2 ?_; clear O; intro W g O K hb; have HG2 := Lib.hid (And.intro (show b4 < g by omega) (fun i (hi : i < k) => (show ClkAt W (nb i) r (fun _ => 0) ∧ nb i < g from ⟨(HROW.out i hi).1.keeps K (by simp), by have := (HROW.out i hi).1.lt; omega⟩))); clear K hb hb4; simp only [Act.put, kA, kZ, kS])
       | (refine wpList_store_blk gN k 25 (rowsZ r nb k) (.slice (some ⟨g, 0, none⟩) r r) rfl rfl rfl rfl rfl (O.get 1 rfl) (by rw [rowsZ_size]; exact hlt) rfl rfl (by kernel_rfl) ?_; intro W2 K B; have hbn := blk_ne (O.get 0 rfl) (O.get 1 rfl) (by decide); rw [rowsZ_set] at B; have O2 := (O.set 1 rfl K B).drop_ 1; have hg0 := (O.get 0 rfl).keeps K (by simpa using hbn); have HN := Lib.hid (show (∀ i, i < k + 1 → ClkAt W2 (updN nb k g i) r (fun _ => 0) ∧ b4 < updN nb k g i) ∧ ∀ i j, i < k + 1 → j < k + 1 → i ≠ j → updN nb k g i ≠ updN nb k g j from ⟨fun i hi => by
           unfold updN
           by_cases e : i = k
           · rw [if_pos e]; exact ⟨⟨_, hg0, CurI.arr _ _⟩, HG2.out.1⟩
           · rw [if_neg e]
             obtain ⟨cur, hb, hc⟩ := (HG2.out.2 i (by omega)).1
             exact ⟨⟨cur, hb.keeps K (by simpa using blk_ne hb (O.get 1 rfl) (by decide)), hc⟩, (HROW.out i (by omega)).2⟩, fun i j hi hj hij => by
           unfold updN
           by_cases e : i = k
           · rw [if_pos e, if_neg (by omega)]; have := (HG2.out.2 j (by omega)).2; omega
           · rw [if_neg e]
             by_cases e2 : j = k
             · rw [if_pos e2]; have := (HG2.out.2 i (by omega)).2; omega
             · rw [if_neg e2]; exact HNE.out i j (by omega) (by omega) hij⟩); clear K B hbn hg0 O))
     go_roundg (r - (k + 1))
     case measure => (have := HG.out; omega)
     case rel => exact ⟨k + 1, updN nb k g, by omega, rfl, by go_num, O2, HN.out.1, HN.out.2⟩
   · obtain rfl : r = k := by omega
     clear HG
     rw [rowsZ_all] at O
     go_wp2_with (first
       | (have hb4 := O.lt 1 rfl; refine at_dst 32 rfl ?_; refine own_makeMapV 32 O rfl rfl rfl ?_; clear O; intro W m0 O K M hb; have HR0 := Lib.hid (fun i (hi : i < r) => (HROW.out i hi).1.keeps K (by simp)); have hm0 : b4 < m0 := (by omega); clear K hb hb4; simp only [Act.put, kA, kZ, kS])
       | (have hl0 := M.lt; refine at_dst 33 rfl ?_; refine own_makeMapV 33 O rfl rfl rfl ?_; clear O; intro W m1 O K M1 hb; replace M := M.keeps K (by simp); have HR1 := Lib.hid (fun i (hi : i < r) => (HR0.out i hi).keeps K (by simp)); have hm1 : m0 < m1 := (by omega); clear K hb hl0 HR0; simp only [Act.put, kA, kZ, kS])
       | (have hl1 := M1.lt; refine at_dst 34 rfl ?_; refine own_makeMapV 34 O rfl rfl rfl ?_; clear O; intro W m2 O K M2 hb; replace M := M.keeps K (by simp); replace M1 := M1.keeps K (by simp); have HR2 := Lib.hid (fun i (hi : i < r) => (HR1.out i hi).keeps K (by simp)); have hm2 : m1 < m2 := (by omega); clear K hb hl1 HR1; simp only [Act.put, kA, kZ, kS])
       | (refine own_load 35 1 O rfl rfl rfl rfl rfl Try.underlying27 rfl (by kernel_rfl) ?_; simp only [Act.put, kA, kZ, kS])
       | (go_at_call 69; refine newLinks_any.mono ?_; rintro e W' ⟨⟨p, F, mb, fL, rfl, LA, hp⟩, K⟩; obtain ⟨mt, q0, q1, q2⟩ : ∃ mt : Nat → Nat, mt 0 = m0 ∧ mt 1 = m1 ∧ mt 2 = m2 := ⟨fun i => [m0, m1, m2].getD i 0, rfl, rfl, rfl⟩; subst q0 q1 q2; obtain ⟨X, T⟩ := ts_start (E := E) (rm := rmS S) HK0.out O (HI.out 0) H0.out HD0.out HGN.out.1 HB4.out HGN.out.2 (fun i hi => ⟨HR2.out i hi, (HROW.out i hi).2⟩) HNE.out (fun i hi => match i, hi with | 0, _ => ⟨M, hm0⟩ | 1, _ => ⟨M1, by omega⟩ | 2, _ => ⟨M2, by omega⟩) (fun i j hi hj hij => by match i, hi, j, hj with | 0, _, 0, _ => omega | 0, _, 1, _ => omega | 0, _, 2, _ => omega | 1, _, 0, _ => omega | 1, _, 1, _ => omega | 1, _, 2, _ => omega | 2, _, 0, _ => omega | 2, _, 1, _ => omega | 2, _, 2, _ => omega) K LA hp; clear O K LA hp M M1 M2 hm0 hm1 hm2 HR2))
     clear HROW HNE HGN HB4
     obtain ⟨base2, hb2⟩ : ∃ b, b = W.heap.size := ⟨_, rfl⟩
     rw [← hb2] at T
     clear hb2
     go_loopg [39] m (fun g s39 wr => ∃ (k : Nat) (X D F : List Nat) (q mL : Nat), k ≤ m ∧ g = m - k ∧ s39 = .int .i64 (k : Int) ∧ TS w0 wr [(b4, 27, sysV S A c R d)] (Inv k) w.heap.size r gN nb mt X D F (nowN E (rmS S) k) (tkC E (rmS S) r k) q (.slice R S.nr d) p mb (lkT E k) mL base2 ∧ q ≤ k ∧ mL ≤ 2 * k ∧ ∀ i, i < k → cont i = true)
     case atStart => exact ⟨0, X, D0, F, 0, 0, by omega, by omega, rfl, T, by omega, by omega, fun i hi => by omega⟩
     case round =>
       clear T
       obtain ⟨k, X, D, F, q, mL, hk, hgk, rfl, T, hq, hmL, hct⟩ := hrel
       have HG := Lib.hid hgk
       have HCT := Lib.hid hct
       clear hgk hct
       by_cases hlt : k < m
       · have g1 : (k : Int) < m := by omega
         have g0 : (0 : Int) ≤ k := by omega
         obtain ⟨ad, rfl, hc⟩ := EvsAt.row (u := w0) HE.out hlt
         have HCE := Lib.hid hc
         have hok := HOK.out k hlt
         have HOKk := Lib.hid hok
         obtain ⟨hw1, hw2, _⟩ := ok_head hok
         obtain ⟨wn, hwn⟩ : ∃ wn : Nat, (E k).who = (wn : Int) := ⟨(E k).who.toNat, by omega⟩
         have hwr : wn < r := by
           have := stN_r_mono E (show k ≤ m by omega)
           have := HR.out
           omega
         have HWN := Lib.hid hwn
         obtain ⟨e, he⟩ : ∃ e, e = E k := ⟨_, rfl⟩
         have HEK := Lib.hid he
         rw [← he] at hc HCE hwn
         clear hc hok hw1 hw2
         obtain ⟨who, op, a, v, sh⟩ := e
         simp only at hwn
         subst hwn
         have g2 : (wn : Int) < r := by omega
         have g3 : (0 : Int) ≤ wn := by omega
         clear he
         go_upto_block 4 with (first
           | (refine wpList_load_at 43 rfl rfl rfl rfl (HCE.out [] _ T.own.keep (by simp)) Try.underlying37 rfl (by kernel_rfl) ?_; simp only [Act.put, kA, kZ, kS])
           | (refine own_allocK 15 (evC ⟨0, 0, 0, 0, false⟩) T.own rfl rfl rfl (fun _ => by kernel_rfl) ?_; intro W1 b15 O K1 hb; replace T := T.add (HI.out k) K1 O hb; clear O K1 hb; simp only [Act.put, kA, kZ, kS])
           | (refine own_store_rowK 0 (.tmp 15) (.tmp 43) T.own rfl rfl rfl rfl rfl rfl (by kernel_rfl) (by rfl) (evC_cell _) ?_; intro W2 O K2; simp only [kZ] at O; replace T := T.wrote (HI.out k) K2 O ⟨(b15, 37, evC ⟨0, 0, 0, 0, false⟩), by simp, rfl⟩ rfl; clear O K2; have c15 : ∀ i : Nat, W2.cell? ⟨b15, i, none⟩ = #[Value.int .i64 (wn : Int), .int .i64 op, .int .i64 a, .int .i64 v, .bool sh][i]? := (T.own.get 0 rfl).cell; have cN : W2.cell? ⟨gN, wn, none⟩ = some (.slice (some ⟨nb wn, 0, none⟩) r r) := (by obtain ⟨f, ht⟩ := T.tk; exact (ht.now.cell wn).trans (rowsA_get _ _ _ hwr))))
         go_cut [] (fun wx => ∃ F2, TS w0 wx [(b15, 37, evC ⟨(wn : Int), op, a, v, sh⟩), (b4, 27, sysV S A c R d)] (Inv k) w.heap.size r gN nb mt X D F2 (updN (nowN E (rmS S) k) wn (mxC E (rmS S) (intoL E (rmS S) k))) (tkC E (rmS S) r k) q (.slice R S.nr d) p mb (lkT E (k + 1)) (mL + 2) base2)
         case first =>
           have HML := Lib.hid (show mL ≤ 80000 by omega)
           have HWW := Lib.hid (wf_small (n := (wn : Int)) (by omega) (by omega))
           have HWA := Lib.hid (by have := HWF.out k hlt; rwa [← HEK.out] at this : (Lit.int .i64 a).wf = true)
           by_cases o11 : op = 11
           · subst o11
             have HLQ := Lib.hid (show ownK (lkT E k) (wn : Int) (k : Int) = lkT E (k + 1) by rw [lkT, if_pos (by rw [← HEK.out]; rfl), ← HEK.out])
             have HLW := Lib.hid (wait_now (E := E) (rm := rmS S) (r := r) (j := k) (by rw [← HEK.out]))
             rw [← HEK.out] at HLW
             obtain ⟨f, ht⟩ := T.tk
             obtain ⟨A1, q1, e1, _⟩ := (ht.kept 1 (by decide) (a)).shape
             have hR := ht.kept 1 (by decide) (a)
             obtain ⟨xs, hxs⟩ : ∃ xs, xs = tkC E (rmS S) r k 1 (a) := ⟨_, rfl⟩
             obtain ⟨n1, hn1⟩ : ∃ n, n = xs.length := ⟨_, rfl⟩
             have HXL := Lib.hid (show xs.length ≤ r by rw [hxs]; rcases tkC_len E (rmS S) r k 1 (a) with h | h <;> rw [h] <;> simp)
             rw [← hxs, ← hn1] at e1
             rw [← hxs] at hR
             have HNB := Lib.hid (show ∀ g, (Value.slice A1 n1 q1).ownBlock = some g → nb wn ≠ g from fun g hg => ht.nbk 1 (by decide) (a) g (by rw [e1]; exact hg) wn hwr)
             rw [e1] at hR
             have lk : (Instr.lookup 159 (.map (some (mt 1))) (.int .i64 (a)) false).run Try.prog W2 = .ok (.slice A1 n1 q1) W2 := by
               have := look_eqV (ht.maps 1 (by decide)) 159 25 (.slice none 0 0) Try.underlying159 (zero25 _) (a) HWA.out
               rwa [show (f 1 (a)).getD (.slice none 0 0) = .slice A1 n1 q1 from e1] at this
             have HXS := Lib.hid hxs
             clear e1 hxs hn1 ht f
             have HLN := Lib.hid (show ∀ w : Nat, w < r → jmax (nowN E (rmS S) k wn) xs xs.length (w : Int) = mxC E (rmS S) (intoL E (rmS S) k) (w : Int) by rw [HXS.out]; exact HLW.out)
             clear HLW
             go_wp2_with (first
               | (refine own_litS 74 (.slice A1 n1 q1) T.own rfl rfl rfl rfl rfl ?_; clear lk; intro W3 gl O K hgl; replace T := T.add (HI.out k) K O hgl; replace hR := hR.keeps K (by simp); clear O K hgl; simp only [Act.put, kA, kZ, kS])
               | (go_at_call 99; obtain ⟨f3, ht3⟩ := T.tk; obtain ⟨cur, hBv, hcv⟩ := ht3.rows wn hwr; refine (joined_any hBv hcv (T.own.get 0 rfl) (by have := hR.listL.1; exact this) (HXL.out) hr2 (fun ad n q hv hn => ?_)).mono ?_; (· (exact fun e => HNB.out ad.block (by rw [hv]; rfl) e.symm)); rintro e W4 ⟨rfl, ⟨cu2, hB2, hs2, hc2⟩, K⟩; have T2 := (T.tick (HI.out k) (K.wide (L' := X) (fun b hb => by rw [List.mem_singleton.1 hb]; exact ht3.nX wn hwr)) (ht3.setNow hwr K ⟨cu2, hB2, hc2⟩) (fun b hb => .inl hb)).drop_ 1; clear T; have T := T2; clear T2 ht3 f3 hBv hcv hB2 hs2 hc2 K; have c15 : ∀ i : Nat, W4.cell? ⟨b15, i, none⟩ = #[Value.int .i64 (wn : Int), .int .i64 11, .int .i64 a, .int .i64 v, .bool sh][i]? := (T.own.get 0 rfl).cell)
               | (refine own_load 78 0 T.own rfl rfl rfl rfl rfl Try.underlying37 rfl (by kernel_rfl) ?_; simp only [Act.put, kA, kZ, kS])
               | (go_at_call 94; obtain ⟨fL, hl⟩ := T.la; refine (own_any hl HWW.out (by have := HML.out; simp only [maxLen]; omega)).mono ?_; rintro e W5 ⟨rr, rfl, _, LA, K⟩; have T2 := T.link (HI.out k) (K.wide (L' := F) (fun b hb => by rw [List.mem_singleton.1 hb]; exact hl.inM 4 (by decide))) LA (fun b hb => .inl hb); clear T; have T := T2; clear T2 LA K hl fL))
             go_meet
             exact ⟨_, (by have T3 := T.same (nc' := updN (nowN E (rmS S) k) wn (mxC E (rmS S) (intoL E (rmS S) k))) (kc' := tkC E (rmS S) r k) (fun i hi j hj => by by_cases e : i = wn; (· (subst e; simp only [updN, if_true]; exact HLN.out j hj)); (· (simp only [updN, if_neg e]))) (fun i hi => rfl); rw [HLQ.out] at T3; exact T3.mono (Nat.le_refl _) (by omega))⟩
           by_cases o8 : op = 8
           · subst o8
             have HLQ := Lib.hid (show ownK (lkT E k) (wn : Int) (k : Int) = lkT E (k + 1) by rw [lkT, if_pos (by rw [← HEK.out]; rfl), ← HEK.out])
             have HLW := Lib.hid (lock_now (E := E) (rm := rmS S) (r := r) (j := k) (by rw [← HEK.out]))
             rw [← HEK.out] at HLW
             obtain ⟨f, ht⟩ := T.tk
             obtain ⟨A1, q1, e1, _⟩ := (ht.kept 2 (by decide) (a)).shape
             have hR := ht.kept 2 (by decide) (a)
             obtain ⟨xs, hxs⟩ : ∃ xs, xs = tkC E (rmS S) r k 2 (a) := ⟨_, rfl⟩
             obtain ⟨n1, hn1⟩ : ∃ n, n = xs.length := ⟨_, rfl⟩
             have HXL := Lib.hid (show xs.length ≤ r by rw [hxs]; rcases tkC_len E (rmS S) r k 2 (a) with h | h <;> rw [h] <;> simp)
             rw [← hxs, ← hn1] at e1
             rw [← hxs] at hR
             have HNB := Lib.hid (show ∀ g, (Value.slice A1 n1 q1).ownBlock = some g → nb wn ≠ g from fun g hg => ht.nbk 2 (by decide) (a) g (by rw [e1]; exact hg) wn hwr)
             rw [e1] at hR
             have lk : (Instr.lookup 159 (.map (some (mt 2))) (.int .i64 (a)) false).run Try.prog W2 = .ok (.slice A1 n1 q1) W2 := by
               have := look_eqV (ht.maps 2 (by decide)) 159 25 (.slice none 0 0) Try.underlying159 (zero25 _) (a) HWA.out
               rwa [show (f 2 (a)).getD (.slice none 0 0) = .slice A1 n1 q1 from e1] at this
             have HXS := Lib.hid hxs
             clear e1 hxs hn1 ht f
             have HLN := Lib.hid (show ∀ w : Nat, w < r → jmax (nowN E (rmS S) k wn) xs xs.length (w : Int) = mxC E (rmS S) (intoL E (rmS S) k) (w : Int) by rw [HXS.out]; exact HLW.out)
             clear HLW
             go_wp2_with (first
               | (refine own_litS 87 (.slice A1 n1 q1) T.own rfl rfl rfl rfl rfl ?_; clear lk; intro W3 gl O K hgl; replace T := T.add (HI.out k) K O hgl; replace hR := hR.keeps K (by simp); clear O K hgl; simp only [Act.put, kA, kZ, kS])
               | (go_at_call 99; obtain ⟨f3, ht3⟩ := T.tk; obtain ⟨cur, hBv, hcv⟩ := ht3.rows wn hwr; refine (joined_any hBv hcv (T.own.get 0 rfl) (by have := hR.listL.1; exact this) (HXL.out) hr2 (fun ad n q hv hn => ?_)).mono ?_; (· (exact fun e => HNB.out ad.block (by rw [hv]; rfl) e.symm)); rintro e W4 ⟨rfl, ⟨cu2, hB2, hs2, hc2⟩, K⟩; have T2 := (T.tick (HI.out k) (K.wide (L' := X) (fun b hb => by rw [List.mem_singleton.1 hb]; exact ht3.nX wn hwr)) (ht3.setNow hwr K ⟨cu2, hB2, hc2⟩) (fun b hb => .inl hb)).drop_ 1; clear T; have T := T2; clear T2 ht3 f3 hBv hcv hB2 hs2 hc2 K; have c15 : ∀ i : Nat, W4.cell? ⟨b15, i, none⟩ = #[Value.int .i64 (wn : Int), .int .i64 8, .int .i64 a, .int .i64 v, .bool sh][i]? := (T.own.get 0 rfl).cell)
               | (refine own_load 91 0 T.own rfl rfl rfl rfl rfl Try.underlying37 rfl (by kernel_rfl) ?_; simp only [Act.put, kA, kZ, kS])
               | (go_at_call 94; obtain ⟨fL, hl⟩ := T.la; refine (own_any hl HWW.out (by have := HML.out; simp only [maxLen]; omega)).mono ?_; rintro e W5 ⟨rr, rfl, _, LA, K⟩; have T2 := T.link (HI.out k) (K.wide (L' := F) (fun b hb => by rw [List.mem_singleton.1 hb]; exact hl.inM 4 (by decide))) LA (fun b hb => .inl hb); clear T; have T := T2; clear T2 LA K hl fL))
             go_meet
             exact ⟨_, (by have T3 := T.same (nc' := updN (nowN E (rmS S) k) wn (mxC E (rmS S) (intoL E (rmS S) k))) (kc' := tkC E (rmS S) r k) (fun i hi j hj => by by_cases e : i = wn; (· (subst e; simp only [updN, if_true]; exact HLN.out j hj)); (· (simp only [updN, if_neg e]))) (fun i hi => rfl); rw [HLQ.out] at T3; exact T3.mono (Nat.le_refl _) (by omega))⟩
           by_cases o10 : op = 10
           · subst o10
             have HLQ := Lib.hid (show ownK (lkT E k) (wn : Int) (k : Int) = lkT E (k + 1) by rw [lkT, if_pos (by rw [← HEK.out]; rfl), ← HEK.out])
             have HLN := Lib.hid (show ∀ w : Nat, w < r → nowN E (rmS S) k wn (w : Int) = mxC E (rmS S) (intoL E (rmS S) k) (w : Int) from fun w hw => by
               have := own_now (E := E) (rm := rmS S) (r := r) (j := k) (by rw [← HEK.out]; first | exact .inl rfl | exact .inr rfl) w hw
               rw [← HEK.out] at this
               exact this)
             go_wp2_with (first
               | (refine own_load 98 0 T.own rfl rfl rfl rfl rfl Try.underlying37 rfl (by kernel_rfl) ?_; simp only [Act.put, kA, kZ, kS])
               | (go_at_call 94; obtain ⟨fL, hl⟩ := T.la; refine (own_any hl HWW.out (by have := HML.out; simp only [maxLen]; omega)).mono ?_; rintro e W5 ⟨rr, rfl, _, LA, K⟩; have T2 := T.link (HI.out k) (K.wide (L' := F) (fun b hb => by rw [List.mem_singleton.1 hb]; exact hl.inM 4 (by decide))) LA (fun b hb => .inl hb); clear T; have T := T2; clear T2 LA K hl fL))
             go_meet
             exact ⟨_, (by have T3 := T.same (nc' := updN (nowN E (rmS S) k) wn (mxC E (rmS S) (intoL E (rmS S) k))) (kc' := tkC E (rmS S) r k) (fun i hi j hj => by by_cases e : i = wn; (· (subst e; simp only [updN, if_true]; exact HLN.out j hj)); (· (simp only [updN, if_neg e]))) (fun i hi => rfl); rw [HLQ.out] at T3; exact T3.mono (Nat.le_refl _) (by omega))⟩
           by_cases o9 : op = 9
           · subst o9
             have HLQ := Lib.hid (show ownK (lkT E k) (wn : Int) (k : Int) = lkT E (k + 1) by rw [lkT, if_pos (by rw [← HEK.out]; rfl), ← HEK.out])
             have HLN := Lib.hid (show ∀ w : Nat, w < r → nowN E (rmS S) k wn (w : Int) = mxC E (rmS S) (intoL E (rmS S) k) (w : Int) from fun w hw => by
               have := own_now (E := E) (rm := rmS S) (r := r) (j := k) (by rw [← HEK.out]; first | exact .inl rfl | exact .inr rfl) w hw
               rw [← HEK.out] at this
               exact this)
             go_wp2_with (first
               | (refine own_load 98 0 T.own rfl rfl rfl rfl rfl Try.underlying37 rfl (by kernel_rfl) ?_; simp only [Act.put, kA, kZ, kS])
               | (go_at_call 94; obtain ⟨fL, hl⟩ := T.la; refine (own_any hl HWW.out (by have := HML.out; simp only [maxLen]; omega)).mono ?_; rintro e W5 ⟨rr, rfl, _, LA, K⟩; have T2 := T.link (HI.out k) (K.wide (L' := F) (fun b hb => by rw [List.mem_singleton.1 hb]; exact hl.inM 4 (by decide))) LA (fun b hb => .inl hb); clear T; have T := T2; clear T2 LA K hl fL))
             go_meet
             exact ⟨_, (by have T3 := T.same (nc' := updN (nowN E (rmS S) k) wn (mxC E (rmS S) (intoL E (rmS S) k))) (kc' := tkC E (rmS S) r k) (fun i hi j hj => by by_cases e : i = wn; (· (subst e; simp only [updN, if_true]; exact HLN.out j hj)); (· (simp only [updN, if_neg e]))) (fun i hi => rfl); rw [HLQ.out] at T3; exact T3.mono (Nat.le_refl _) (by omega))⟩
           have q8 : (op == 8) = false := by simpa using o8
           have q9 : (op == 9) = false := by simpa using o9
           have q10 : (op == 10) = false := by simpa using o10
           have q11 : (op == 11) = false := by simpa using o11
           have HQE := Lib.hid (show quietE (E k) = false by rw [← HEK.out]; simp [quietE, q8, q9, q10, q11])
           have HLQ := Lib.hid (show nextK (lkT E k) (k : Int) ⟨(wn : Int), op, a, v, sh⟩ = lkT E (k + 1) by rw [lkT, if_neg (by rw [HQE.out]; decide), ← HEK.out])
           have HIN := Lib.hid (show scL (nextR (lkT E k) (rmS S) ⟨(wn : Int), op, a, v, sh⟩) = intoL E (rmS S) k by unfold intoL; rw [← HEK.out, nextR_eq (lkT_eq E k) _ _ o8 o11])
           have HNX := Lib.hid (fun u (K : Keeps w0 u []) F fL (hl : LinksAt u F (.slice R S.nr d) p mb fL (lkT E k) mL base2) (hb : w0.heap.size ≤ base2) => (by
             have := lnextE HS.out K HRM.out (by omega) HOKk.out (HWF.out k hlt) hl (by omega) (fun i a => by have := lkT_len E i a k; omega) (fun h6 hs => by rw [(lkT_eq E k).1, (lkT_eq E k).2.1, lk_r0, lk_r1, natL_length, natL_length]; exact ok_take HOKk.out h6 hs) hb
             rwa [← HEK.out] at this : Calls Try.prog 70 #[.pointer (some ⟨p, 0, none⟩), .int .i64 (k : Int), .agg (evC ⟨(wn : Int), op, a, v, sh⟩)] u (LNextE u F (.slice R S.nr d) p mb (lkT E k) mL base2 (rmS S) k ⟨(wn : Int), op, a, v, sh⟩)))
           have HIL := Lib.hid (fun x (hx : x ∈ intoL E (rmS S) k) => intoL_lt HOKk.out hx)
           have HLL := Lib.hid (intoL_length (rm := rmS S) HOKk.out)
           have HFA := Lib.hid (fold_all (r := r) (rm := rmS S) HOKk.out HQE.out)
           obtain ⟨xsI, hxI⟩ : ∃ l, l = intoL E (rmS S) k := ⟨_, rfl⟩
           obtain ⟨nI, hnI⟩ : ∃ n, n = xsI.length := ⟨_, rfl⟩
           rw [← hxI] at HIN HIL HLL HFA
           have HXI := Lib.hid hxI
           have HNI := Lib.hid hnI
           have hnI6 : nI ≤ 40000 := by have := HLL.out; omega
           clear hxI hnI o8 o9 o10 o11
           go_wp2_with (first
             | (refine own_load 53 0 T.own rfl rfl rfl rfl rfl Try.underlying37 rfl (by kernel_rfl) ?_; simp only [Act.put, kA, kZ, kS])
             | (go_at_call 70; obtain ⟨fL, hl⟩ := T.la; refine (HNX.out _ T.own.keep F fL hl T.bs.2).mono ?_; rintro x W5 ⟨rr, F2, f2, rfl, hQ, LA, hnew, _, K⟩; rw [HIN.out] at hQ; rw [HLQ.out] at LA; obtain ⟨Av, cv, hvv, _⟩ := hQ.listL.1; rw [← HNI.out] at hvv; subst hvv; have hnw : nb wn < W2.heap.size := (by obtain ⟨f, ht⟩ := T.tk; exact (ht.rows wn hwr).lt); have T2 := T.link (HI.out k) K LA hnew; clear T; have T := T2; clear T2 LA K hl fL hnew))
           generalize hbh : W2.heap.size = bh at hQ hnw
           have HBH := Lib.hid hnw
           clear hbh hnw q8 q9 q10 q11 c15 cN
           have T := T.same (nc' := updN (nowN E (rmS S) k) wn (foldC E (rmS S) r k 0)) (kc' := tkC E (rmS S) r k) (fun i hi j hj => by by_cases e : i = wn; (· (subst e; simp only [updN, if_true]; rw [fold_zero, ← HEK.out]; rfl)); (· (simp only [updN, if_neg e]))) (fun i hi => rfl)
           go_loopg [56] nI (fun g s56 wr => ∃ q', q' ≤ nI ∧ g = nI - q' ∧ s56 = .int .i64 (q' : Int) ∧ TS w0 wr [(b15, 37, evC ⟨(wn : Int), op, a, v, sh⟩), (b4, 27, sysV S A c R d)] (Inv k) w.heap.size r gN nb mt X D F2 (updN (nowN E (rmS S) k) wn (foldC E (rmS S) r k q')) (tkC E (rmS S) r k) q (.slice R S.nr d) p mb (lkT E (k + 1)) (mL + 2) base2 ∧ HRow bh wr (.slice Av nI cv) xsI)
           case atStart => exact ⟨0, by omega, by omega, rfl, T, hQ⟩
           case round =>
             clear T hQ
             obtain ⟨q', hq', hgq, rfl, T, hQ⟩ := hrel
             have HG2 := Lib.hid hgq
             clear hgq
             by_cases hqt : q' < nI
             · have g4 : (q' : Int) < nI := by omega
               have g5 : (0 : Int) ≤ q' := by omega
               have HQL := Lib.hid (show q' < xsI.length by rw [← HNI.out]; exact hqt)
               obtain ⟨A', c', e', hx⟩ := hQ.listL.1
               obtain ⟨ad', e1, _, hc⟩ := hx (by have := HQL.out; omega)
               have e2 : Av = some ad' := by rw [← e1]; injection e'
               subst e2
               clear e1 e'
               have cq := hc q' HQL.out
               have hxm : xsI.getD q' 0 ∈ xsI := by rw [List.getD_eq_getElem?_getD, List.getElem?_eq_getElem HQL.out]; exact List.getElem_mem _
               have hx0 := HIL.out _ hxm
               have HWX := Lib.hid (wf_small (n := xsI.getD q' 0) (by omega) (by omega))
               have HFS := Lib.hid (fold_succ (E := E) (rm := rmS S) (r := r) (j := k) (q := q') (by rw [← HXI.out]; exact HQL.out))
               rw [← HXI.out] at HFS
               clear hx hc hxm
               generalize xsI.getD q' 0 = x at cq HWX HFS hx0
               obtain ⟨f, ht⟩ := T.tk
               obtain ⟨A1, q1, e1, _⟩ := (ht.kept 0 (by decide) (x)).shape
               have hR := ht.kept 0 (by decide) (x)
               obtain ⟨xs, hxs⟩ : ∃ xs, xs = tkC E (rmS S) r k 0 (x) := ⟨_, rfl⟩
               obtain ⟨n1, hn1⟩ : ∃ n, n = xs.length := ⟨_, rfl⟩
               have HXL := Lib.hid (show xs.length ≤ r by rw [hxs]; rcases tkC_len E (rmS S) r k 0 (x) with h | h <;> rw [h] <;> simp)
               rw [← hxs, ← hn1] at e1
               rw [← hxs] at hR
               have HNB := Lib.hid (show ∀ g, (Value.slice A1 n1 q1).ownBlock = some g → nb wn ≠ g from fun g hg => ht.nbk 0 (by decide) (x) g (by rw [e1]; exact hg) wn hwr)
               rw [e1] at hR
               have lk : (Instr.lookup 159 (.map (some (mt 0))) (.int .i64 (x)) false).run Try.prog wr = .ok (.slice A1 n1 q1) wr := by
                 have := look_eqV (ht.maps 0 (by decide)) 159 25 (.slice none 0 0) Try.underlying159 (zero25 _) (x) HWX.out
                 rwa [show (f 0 (x)).getD (.slice none 0 0) = .slice A1 n1 q1 from e1] at this
               have HXS := Lib.hid hxs
               clear e1 hxs hn1 ht f
               rw [← HXS.out] at HFS
               clear hx0
               go_wp2_with (first
                 | (refine own_litS 64 (.slice A1 n1 q1) T.own rfl rfl rfl rfl rfl ?_; clear lk; intro W3 gl O K hgl; replace T := T.add (HI.out k) K O hgl; replace hR := hR.keeps K (by simp); replace hQ := hQ.keeps K (by simp); clear cq; clear O K hgl; simp only [Act.put, kA, kZ, kS])
                 | (go_at_call 99; obtain ⟨f3, ht3⟩ := T.tk; obtain ⟨cur, hBv, hcv⟩ := ht3.rows wn hwr; refine (joined_any hBv hcv (T.own.get 0 rfl) (by have := hR.listL.1; exact this) (HXL.out) hr2 (fun ad n q hv hn => ?_)).mono ?_; (· (exact fun e => HNB.out ad.block (by rw [hv]; rfl) e.symm)); rintro e W4 ⟨rfl, ⟨cu2, hB2, hs2, hc2⟩, K⟩; replace hQ := hQ.keeps K (fun g hg hm => by have h1 := (hQ.own hg).1; have h2 := HBH.out; rw [List.mem_singleton.1 hm] at h1; omega); have T2 := (T.tick (HI.out k) (K.wide (L' := X) (fun b hb => by rw [List.mem_singleton.1 hb]; exact ht3.nX wn hwr)) (ht3.setNow hwr K ⟨cu2, hB2, hc2⟩) (fun b hb => .inl hb)).drop_ 1; clear T; have T := T2; clear T2 ht3 f3 hBv hcv hB2 hs2 hc2 K))
               have T := T.same (nc' := updN (nowN E (rmS S) k) wn (foldC E (rmS S) r k (q' + 1))) (kc' := tkC E (rmS S) r k) (fun i hi j hj => by by_cases e : i = wn; (· (subst e; simp only [updN, if_true]; exact HFS.out j hj)); (· (simp only [updN, if_neg e]))) (fun i hi => rfl)
               go_roundg (nI - (q' + 1))
               case measure => (have := HG2.out; omega)
               case rel => exact ⟨q' + 1, by omega, rfl, by go_num, T, hQ⟩
             · obtain rfl : nI = q' := by omega
               have T := T.same (nc' := updN (nowN E (rmS S) k) wn (mxC E (rmS S) (intoL E (rmS S) k))) (kc' := tkC E (rmS S) r k) (fun i hi j hj => by by_cases e : i = wn; (· (subst e; simp only [updN, if_true]; have := HFA.out j hj; rw [← HNI.out, HXI.out] at this; exact this)); (· (simp only [updN, if_neg e]))) (fun i hi => rfl)
               go_wp2
               go_meet
               exact ⟨_, T⟩
         case rest =>
           obtain ⟨F2, T⟩ := hcut
           obtain ⟨f, ht⟩ := T.tk
           obtain ⟨cur, hBw, hcw⟩ := ht.rows wn hwr
           obtain ⟨mx, hmx⟩ : ∃ mx, mx = mxC E (rmS S) (intoL E (rmS S) k) (wn : Int) := ⟨_, rfl⟩
           have hck := clk_eq (rm := rmS S) HOKk.out (wn : Int)
           have hcu := clk_up (rm := rmS S) HOKk.out
           rw [if_pos (by rw [← HEK.out]), show maxL ((intoL E (rmS S) k).map fun x => clk E (rmS S) x (wn : Int)) = mx from hmx.symm] at hck
           rw [← HEK.out] at hcu
           simp only at hcu
           rw [← hmx] at hcu
           have hmx1 : 0 ≤ mx ∧ mx ≤ 40000 := by
             have h1 := clk_le (E := E) (rm := rmS S) (wn : Int) k
             have h2 : 0 ≤ mx := by rw [hmx]; exact maxL_nonneg _
             omega
           have cw : wc.cell? ⟨nb wn, wn, none⟩ = some (.int .i64 mx) := by
             rw [hBw.cell, hcw.2 wn hwr]
             simp only [updN, if_true]
             rw [← hmx]
           have HCS := Lib.hid (hcw.set wn (mx + 1) hwr)
           have HCU := Lib.hid hcu
           have hsz : wn < cur.size := by have := hcw.1; omega
           have r1 : IntKind.i64.wrap (mx + 1) = mx + 1 := IntWalk.i64_in _ (by omega)
           have HNX := ht.nX wn hwr
           have HNC := Lib.hid (show updN (nowN E (rmS S) k) wn (clk E (rmS S) k) wn = clk E (rmS S) k by simp [updN])
           have HKL := Lib.hid (fun i a (hi : i < 3) => (show (tkC E (rmS S) r k i a).length ≤ r from by rcases tkC_len E (rmS S) r k i a with h | h <;> rw [h] <;> simp))
           have HWA := Lib.hid (by have := HWF.out k hlt; rwa [← HEK.out] at this : (Lit.int .i64 a).wf = true)
           have HOKA := Lib.hid (show OkAll S E (k + 1) from fun i hi => HOK.out i (by omega))
           have H14 := Lib.hid (show (⟨(wn : Int), op, a, v, sh⟩ : Ev).op = 14 → 0 < (⟨(wn : Int), op, a, v, sh⟩ : Ev).v → ∃ vN : Nat, (⟨(wn : Int), op, a, v, sh⟩ : Ev).v = (vN : Int) ∧ vN < r ∧ vN ≠ wn from fun h14 hv => by
             have h1 := ok_start HOKk.out (by rw [← HEK.out]; exact h14)
             have h2 := (ok_head HOKk.out).2.1
             have h3 := stN_r_mono E (show k + 1 ≤ m by omega)
             have h4 : (stN E (k + 1)).r = (stN E k).r + 1 := by
               show (nextE (stN E k) (E k)).r = _
               unfold nextE
               rw [← HEK.out, if_pos h14, if_neg (by omega)]
             have h5 := HR.out
             rw [← HEK.out] at h1 h2
             simp only at h1 h2 hv ⊢
             exact ⟨v.toNat, by omega, by omega, by omega⟩)
           have HCk := Lib.hid (fun u D g => HC.out k hlt u D g)
           clear hmx hck hcu hmx1 hcw
           have c15 : ∀ i : Nat, wc.cell? ⟨b15, i, none⟩ = #[Value.int .i64 (wn : Int), .int .i64 op, .int .i64 a, .int .i64 v, .bool sh][i]? := (T.own.get 0 rfl).cell
           cases hcc : cont k with
           | true =>
             rw [hcc] at HCk
             have HCC := Lib.hid hcc
             clear hcc
             go_wp2_with (first
               | (refine wpList_store_blk (nb wn) wn 3 cur (.int .i64 (mx + 1)) rfl rfl rfl rfl rfl hBw hsz rfl rfl (by kernel_rfl) ?_; intro u K B; have T2 := (T.tick (HI.out k) (K.wide (L' := X) (fun b hb => by rw [List.mem_singleton.1 hb]; exact HNX)) (ht.setNow hwr K ⟨_, B, HCS.out⟩) (fun b hb => .inl hb)).same (nc' := updN (nowN E (rmS S) k) wn (clk E (rmS S) k)) (kc' := tkC E (rmS S) r k) (fun i hi j hj => by by_cases e : i = wn; (· (subst e; simp only [updN, if_true]; exact congrFun HCU.out _)); (· (simp only [updN, if_neg e]))) (fun i hi => rfl); clear T ht hBw cw c15 K B r1; have T := T2; clear T2)
               | (refine own_load 107 0 T.own rfl rfl rfl rfl rfl Try.underlying37 rfl (by kernel_rfl) ?_; simp only [Act.put, kA, kZ, kS])
               | (go_at_call 100; obtain ⟨f2, ht2⟩ := T.tk; refine (note_any ⟨(wn : Int), op, a, v, sh⟩ ht2 hwr HNC.out hr2 (by omega) HKL.out HWA.out (by omega) H14.out).mono ?_; rintro e W6 ⟨rfl, ⟨f6, X6, hT6, hX6⟩, K⟩; have T2 := (T.tick (HI.out k) K hT6 hX6).same (nc' := nowN E (rmS S) (k + 1)) (kc' := tkC E (rmS S) r (k + 1)) (by rw [HEK.out]; exact note_now HOKA.out HWN.out (fun i hi hi2 c hc => by simp only [updN, if_neg hi]) (fun c hc => by simp only [updN, if_true])) (by rw [HEK.out]; exact note_kc); clear T ht2 hT6 hX6 K; have T := T2; clear T2)
               | (have hself : ClkAt _ (nb wn) r (clk E (rmS S) k) := (by obtain ⟨f2, ht2⟩ := T.tk; have := ht2.rows wn hwr; unfold nowN at this; rw [← HWN.out, now_self] at this; exact this); have hnd : nb wn ∉ D := (fun hm => T.dX _ hm (by obtain ⟨f2, ht2⟩ := T.tk; exact ht2.nX wn hwr)); refine wpList_call_fn (.int .i64 (k : Int)) (.slice (some ⟨nb wn, 0, none⟩) r r) rfl rfl rfl rfl rfl HFN.out ?_; refine (HCk.out _ D (nb wn) T.iv hnd hself).mono ?_; rintro e W7 ⟨rfl, ⟨D', hv', hD', hlt'⟩, K⟩; refine ⟨_, rfl, ?_⟩; simp only [Act.put, kA, kZ, kS]; have T2 := T.client K hv' hD' hlt'; clear T hself hnd hv' hD' hlt' K; have T := T2; clear T2))
             go_roundg (m - (k + 1))
             case measure => (have := HG.out; omega)
             case rel => exact ⟨k + 1, _, _, _, _, _, by omega, rfl, by go_num, T.drop_ 1, by omega, by omega, fun i hi => by
               by_cases e : i = k
               · rw [e]; exact HCC.out
               · exact HCT.out i (by omega)⟩
           | false =>
             rw [hcc] at HCk
             have HCC := Lib.hid hcc
             clear hcc
             go_wp2_with (first
               | (refine wpList_store_blk (nb wn) wn 3 cur (.int .i64 (mx + 1)) rfl rfl rfl rfl rfl hBw hsz rfl rfl (by kernel_rfl) ?_; intro u K B; have T2 := (T.tick (HI.out k) (K.wide (L' := X) (fun b hb => by rw [List.mem_singleton.1 hb]; exact HNX)) (ht.setNow hwr K ⟨_, B, HCS.out⟩) (fun b hb => .inl hb)).same (nc' := updN (nowN E (rmS S) k) wn (clk E (rmS S) k)) (kc' := tkC E (rmS S) r k) (fun i hi j hj => by by_cases e : i = wn; (· (subst e; simp only [updN, if_true]; exact congrFun HCU.out _)); (· (simp only [updN, if_neg e]))) (fun i hi => rfl); clear T ht hBw cw c15 K B r1; have T := T2; clear T2)
               | (refine own_load 107 0 T.own rfl rfl rfl rfl rfl Try.underlying37 rfl (by kernel_rfl) ?_; simp only [Act.put, kA, kZ, kS])
               | (go_at_call 100; obtain ⟨f2, ht2⟩ := T.tk; refine (note_any ⟨(wn : Int), op, a, v, sh⟩ ht2 hwr HNC.out hr2 (by omega) HKL.out HWA.out (by omega) H14.out).mono ?_; rintro e W6 ⟨rfl, ⟨f6, X6, hT6, hX6⟩, K⟩; have T2 := (T.tick (HI.out k) K hT6 hX6).same (nc' := nowN E (rmS S) (k + 1)) (kc' := tkC E (rmS S) r (k + 1)) (by rw [HEK.out]; exact note_now HOKA.out HWN.out (fun i hi hi2 c hc => by simp only [updN, if_neg hi]) (fun c hc => by simp only [updN, if_true])) (by rw [HEK.out]; exact note_kc); clear T ht2 hT6 hX6 K; have T := T2; clear T2)
               | (have hself : ClkAt _ (nb wn) r (clk E (rmS S) k) := (by obtain ⟨f2, ht2⟩ := T.tk; have := ht2.rows wn hwr; unfold nowN at this; rw [← HWN.out, now_self] at this; exact this); have hnd : nb wn ∉ D := (fun hm => T.dX _ hm (by obtain ⟨f2, ht2⟩ := T.tk; exact ht2.nX wn hwr)); refine wpList_call_fn (.int .i64 (k : Int)) (.slice (some ⟨nb wn, 0, none⟩) r r) rfl rfl rfl rfl rfl HFN.out ?_; refine (HCk.out _ D (nb wn) T.iv hnd hself).mono ?_; rintro e W7 ⟨rfl, ⟨D', hv', hD', hlt'⟩, K⟩; refine ⟨_, rfl, ?_⟩; simp only [Act.put, kA, kZ, kS]; have T2 := T.client K hv' hD' hlt'; clear T hself hnd hv' hD' hlt' K; have T := T2; clear T2))
             go_returns
             exact ⟨rfl, T.own.keep, k + 1, _, T.iv, .inr ⟨k, rfl, hlt, HCC.out, HCT.out⟩⟩
       · obtain rfl : m = k := by omega
         go_wp2
         go_returns
         exact ⟨rfl, T.own.keep, m, D, T.iv, .inl ⟨rfl, HCT.out⟩⟩
end
open Go.RowKit Go.Maps Go.Deep
theorem beq_nn {a b : Nat} (h : a ≠ b) : ((a : Int) == (b : Int)) = false := by rw [beq_eq_false_iff_ne]; omega
theorem fn101 : FnOk 101 := fun args w => by go_simp
structure BfAt (w0 u : World) (B : Option Addr) (n cb i j : Nat) (b8 b6 b11 b9 b12 : Nat) (own : Int) (yes : Bool) : Prop where
 keep : Keeps w0 u []
 h8 : Blk u b8 3 #[.int .i64 (i : Int)]
 h6 : Blk u b6 31 #[.slice B n cb]
 h11 : Blk u b11 3 #[.int .i64 own]
 h9 : Blk u b9 3 #[.int .i64 (j : Int)]
 h12 : Blk u b12 4 #[.bool yes]
 nd : b8 ≠ b11 ∧ b9 ≠ b11
 lt : w0.heap.size ≤ b11 ∧ w0.heap.size ≤ b12
section
variable {w0 u : World} {E : Nat → Ev} {B : Option Addr} {n cb i j r k g wi : Nat} {b8 b6 b11 b9 b12 : Nat} {own : Int} {yes : Bool} {c : Int → Int}
def BPost (w0 : World) (B : Option Addr) (n cb i j b8 b6 b11 b9 b12 : Nat) (own : Int) (yes : Bool) (u : World) (e : Ending) (u' : World) : Prop :=
 e = .returned (.bool true) ∧ BfAt w0 u' B n cb i j b8 b6 b11 b9 b12 own yes ∧ Keeps u u' [b11, b12]
set_option maxRecDepth 100000 in
set_option maxHeartbeats 1000000 in
theorem bclo_o (hA : BfAt w0 u B n cb i j b8 b6 b11 b9 b12 own yes) (hE : EvsAt w0 B n E) (hc : ClkAt u g r c) (hi : i < n) (hw : (E i).who = (wi : Int)) (hwr : wi < r) (hg : g ≠ b11 ∧ g ≠ b12) (hj : j ≤ 40000) (hki : k ≠ i) (hkj : k ≠ j) :
   Calls Try.prog 101 #[.int .i64 (k : Int), .slice (some ⟨g, 0, none⟩) r r, .pointer (some ⟨b8, 0, none⟩), .pointer (some ⟨b6, 0, none⟩), .pointer (some ⟨b11, 0, none⟩), .pointer (some ⟨b9, 0, none⟩), .pointer (some ⟨b12, 0, none⟩)] u (BPost w0 B n cb i j b8 b6 b11 b9 b12 own yes u) := by
 obtain ⟨ad, rfl, hce⟩ := EvsAt.row (u := w0) hE hi
 have HCE := Lib.hid hce
 obtain ⟨cur, hB, hcu⟩ := hc
 have hcc := hcu.2 wi hwr
 have g1 : (i : Int) < n := by omega
 have g0 : (0 : Int) ≤ i := by omega
 have g2 : (wi : Int) < r := by omega
 have g3 : (0 : Int) ≤ wi := by omega
 have HA := Lib.hid hA
 have HB := Lib.hid hB
 have HW := Lib.hid hw
 have c8 := hA.h8.cell 0
 have c6 := hA.h6.cell 0
 have c9 := hA.h9.cell 0
 have cE : u.cell? (ad.add (i * 5)) = some (.int .i64 (wi : Int)) := by
   have := (show u.cell? (ad.add (i * 5)) = some (.int .i64 (E i).who) from hce [] u hA.keep (by simp) 0 (by show 0 < 5; omega))
   rw [hw] at this
   exact this
 have cg : u.cell? ⟨g, wi, none⟩ = some (.int .i64 (c (wi : Int))) := (hB.cell wi).trans hcc
 have q1 : ((k : Int) == (i : Int)) = false := beq_nn (by omega)
 have q2 : ((k : Int) == (j : Int)) = false := beq_nn (by omega)
 have q3 : (k == i) = false := by simpa using hki
 have q4 : (k == j) = false := by simpa using hkj
 clear hA hB hcu hcc hce hw hki hkj hE
 go_enter Try.func101, Try.ntmps101
 go_wp2
 go_ret
 exact ⟨rfl, HA.out, Keeps.refl _ _⟩
set_option maxRecDepth 100000 in
set_option maxHeartbeats 1000000 in
theorem bclo_i (hA : BfAt w0 u B n cb i j b8 b6 b11 b9 b12 own yes) (hE : EvsAt w0 B n E) (hc : ClkAt u g r c) (hi : i < n) (hw : (E i).who = (wi : Int)) (hwr : wi < r) (hg : g ≠ b11 ∧ g ≠ b12) (hj : j ≤ 40000) (hij : i ≠ j) :
   Calls Try.prog 101 #[.int .i64 (i : Int), .slice (some ⟨g, 0, none⟩) r r, .pointer (some ⟨b8, 0, none⟩), .pointer (some ⟨b6, 0, none⟩), .pointer (some ⟨b11, 0, none⟩), .pointer (some ⟨b9, 0, none⟩), .pointer (some ⟨b12, 0, none⟩)] u (BPost w0 B n cb i j b8 b6 b11 b9 b12 (c (wi : Int)) yes u) := by
 obtain ⟨ad, rfl, hce⟩ := EvsAt.row (u := w0) hE hi
 have HCE := Lib.hid hce
 obtain ⟨cur, hB, hcu⟩ := hc
 have hcc := hcu.2 wi hwr
 have g1 : (i : Int) < n := by omega
 have g0 : (0 : Int) ≤ i := by omega
 have g2 : (wi : Int) < r := by omega
 have g3 : (0 : Int) ≤ wi := by omega
 have HA := Lib.hid hA
 have HB := Lib.hid hB
 have HW := Lib.hid hw
 have c8 := hA.h8.cell 0
 have c6 := hA.h6.cell 0
 have c9 := hA.h9.cell 0
 have cE : u.cell? (ad.add (i * 5)) = some (.int .i64 (wi : Int)) := by
   have := (show u.cell? (ad.add (i * 5)) = some (.int .i64 (E i).who) from hce [] u hA.keep (by simp) 0 (by show 0 < 5; omega))
   rw [hw] at this
   exact this
 have cg : u.cell? ⟨g, wi, none⟩ = some (.int .i64 (c (wi : Int))) := (hB.cell wi).trans hcc
 have q2 : ((i : Int) == (j : Int)) = false := beq_nn (by omega)
 have q4 : (i == j) = false := by simpa using hij
 generalize c (wi : Int) = x at cg ⊢
 clear hA hB hcu hcc hce hw hij hE
 go_enter Try.func101, Try.ntmps101
 go_wp2_with (refine wpList_store_blk b11 0 3 #[.int .i64 own] (.int .i64 x) rfl rfl rfl rfl rfl HA.out.h11 (by simp) rfl rfl (by kernel_rfl) ?_; intro u2 K Bn; have c9' : u2.cell? ⟨b9, 0, none⟩ = some (.int .i64 (j : Int)) := (HA.out.h9.keeps K (by simpa using HA.out.nd.2)).cell 0; have HK := Lib.hid K; have HBN := Lib.hid (show Blk u2 b11 3 #[.int .i64 x] from Bn); clear K Bn)
 go_ret
 exact ⟨rfl, ⟨HA.out.keep.trans HK.out (fun b hb hlt => by rw [List.mem_singleton.1 hb] at hlt; have := HA.out.lt.1; omega), HA.out.h8.keeps HK.out (by simpa using HA.out.nd.1), HA.out.h6.keeps HK.out (by simpa using blk_ne HA.out.h6 HA.out.h11 (by decide)), HBN.out, HA.out.h9.keeps HK.out (by simpa using HA.out.nd.2), HA.out.h12.keeps HK.out (by simpa using blk_ne HA.out.h12 HA.out.h11 (by decide)), HA.out.nd, HA.out.lt⟩, HK.out.wide (by simp)⟩
set_option maxRecDepth 100000 in
set_option maxHeartbeats 1000000 in
theorem bclo_j (hA : BfAt w0 u B n cb i j b8 b6 b11 b9 b12 own yes) (hE : EvsAt w0 B n E) (hc : ClkAt u g r c) (hi : i < n) (hw : (E i).who = (wi : Int)) (hwr : wi < r) (hg : g ≠ b11 ∧ g ≠ b12) (hj : j ≤ 40000) (hij : i ≠ j) :
   Calls Try.prog 101 #[.int .i64 (j : Int), .slice (some ⟨g, 0, none⟩) r r, .pointer (some ⟨b8, 0, none⟩), .pointer (some ⟨b6, 0, none⟩), .pointer (some ⟨b11, 0, none⟩), .pointer (some ⟨b9, 0, none⟩), .pointer (some ⟨b12, 0, none⟩)] u (BPost w0 B n cb i j b8 b6 b11 b9 b12 own (decide (own ≤ c (wi : Int))) u) := by
 obtain ⟨ad, rfl, hce⟩ := EvsAt.row (u := w0) hE hi
 have HCE := Lib.hid hce
 obtain ⟨cur, hB, hcu⟩ := hc
 have hcc := hcu.2 wi hwr
 have g1 : (i : Int) < n := by omega
 have g0 : (0 : Int) ≤ i := by omega
 have g2 : (wi : Int) < r := by omega
 have g3 : (0 : Int) ≤ wi := by omega
 have HA := Lib.hid hA
 have HB := Lib.hid hB
 have HW := Lib.hid hw
 have c8 := hA.h8.cell 0
 have c6 := hA.h6.cell 0
 have c9 := hA.h9.cell 0
 have cE : u.cell? (ad.add (i * 5)) = some (.int .i64 (wi : Int)) := by
   have := (show u.cell? (ad.add (i * 5)) = some (.int .i64 (E i).who) from hce [] u hA.keep (by simp) 0 (by show 0 < 5; omega))
   rw [hw] at this
   exact this
 have cg : u.cell? ⟨g, wi, none⟩ = some (.int .i64 (c (wi : Int))) := (hB.cell wi).trans hcc
 have q1 : ((j : Int) == (i : Int)) = false := beq_nn (by omega)
 have q3 : (j == i) = false := by simpa using Ne.symm hij
 generalize hx : c (wi : Int) = x at cg ⊢
 have HCG := Lib.hid (fun q : Later u => (((HB.out.keeps q.2 (by simp)).cell wi).trans (hcc.trans (by rw [hx])) : q.1.cell? ⟨g, wi, none⟩ = some (.int .i64 x)))
 have HCE2 := Lib.hid (fun q : Later u => (by have := (show q.1.cell? (ad.add (i * 5)) = some (.int .i64 (E i).who) from HCE.out [] q.1 (HA.out.keep.trans q.2 (by simp)) (by simp) 0 (by show 0 < 5; omega)); rw [HW.out] at this; exact this : q.1.cell? (ad.add (i * 5)) = some (.int .i64 (wi : Int))))
 clear hA hB hcu hcc hce hw hij hE hx
 go_enter Try.func101, Try.ntmps101
 go_wp2
 clear c8 c6 c9 cE cg
 have c8 : ∀ q : Later u, q.1.cell? ⟨b8, 0, none⟩ = some (.int .i64 (i : Int)) := fun q => (HA.out.h8.keeps q.2 (by simp)).cell 0
 have c6 : ∀ q : Later u, q.1.cell? ⟨b6, 0, none⟩ = some (.slice (some ad) n cb) := fun q => (HA.out.h6.keeps q.2 (by simp)).cell 0
 have c11 : ∀ q : Later u, q.1.cell? ⟨b11, 0, none⟩ = some (.int .i64 own) := fun q => (HA.out.h11.keeps q.2 (by simp)).cell 0
 have cE := HCE2.out
 have cg := HCG.out
 refine wp_quiet_tail_later 10 (by kernel_rfl) (by kernel_rfl) ?_
 simp only [List.take, List.drop]
 repeat (first | go_big_quiet_skip | go_big_quiet_step (fail))
 refine kq fun p' => ?_
 have HKQ := Lib.hid p'.2
 have H12 := Lib.hid (HA.out.h12.keeps p'.2 (by simp))
 clear c8 c6 c11 cE cg
 generalize p'.1 = W at HKQ H12 ⊢
 refine wpList_store_blk b12 0 4 #[.bool yes] (.bool (decide (own ≤ x))) rfl rfl rfl rfl rfl H12.out (by simp) rfl rfl (by kernel_rfl) ?_
 intro u2 K Bn
 have HK := Lib.hid (HKQ.out.wide (L' := [b12]) (by simp) |>.trans K (fun b hb _ => hb))
 have HBN := Lib.hid (show Blk u2 b12 4 #[.bool (decide (own ≤ x))] from Bn)
 clear K Bn
 go_wp2
 go_ret
 exact ⟨rfl, ⟨HA.out.keep.trans HK.out (fun b hb hlt => by rw [List.mem_singleton.1 hb] at hlt; have := HA.out.lt.2; omega), HA.out.h8.keeps HK.out (by simpa using blk_ne HA.out.h8 HA.out.h12 (by decide)), HA.out.h6.keeps HK.out (by simpa using blk_ne HA.out.h6 HA.out.h12 (by decide)), HA.out.h11.keeps HK.out (by simpa using blk_ne HA.out.h11 HA.out.h12 (by decide)), HA.out.h9.keeps HK.out (by simpa using blk_ne HA.out.h9 HA.out.h12 (by decide)), HBN.out, HA.out.nd, HA.out.lt⟩, HK.out.wide (by simp)⟩
end
open Go.RowKit Go.Maps Go.Deep
def befB (E : Nat → Ev) (rm : Int → Int) (i j : Nat) : Bool := decide (i < j) && decide (clk E rm i (E i).who ≤ clk E rm j (E i).who)
theorem blk_add {W : World} {g t : Nat} {cs : Array Value} (h : Blk W g t cs) (j : Nat) : W.cell? ((⟨g, 0, none⟩ : Addr).add j) = cs[j]? := by
 have e : (⟨g, 0, none⟩ : Addr).add j = ⟨g, j, none⟩ := by
   by_cases h : j = 0
   · subst h; rfl
   · simp [Addr.add, h]
 rw [e, h.cell]
theorem evs_le {w : World} {B : Option Addr} {n m : Nat} {E : Nat → Ev} (h : EvsAt w B n E) (hm : m ≤ n) : EvsAt w B m E := fun h0 => by
 obtain ⟨ad, e, hb, hc⟩ := h (by omega)
 exact ⟨ad, e, hb, fun i j hi hj => hc i j (by omega) hj⟩
theorem own_at {w W : World} {L : List Ent} {g : Nat} {t : TypeId} {cs : Array Value} (h : Own w W [] L) (k : Nat) (hk : L[k]? = some (g, t, cs)) : w.heap.size ≤ g ∧ g < W.heap.size :=
 ⟨Nat.le_of_not_lt fun hl => absurd (h.new _ (List.mem_of_getElem? hk) hl) (by simp), h.lt k hk⟩
def ownK9 (E : Nat → Ev) (rm : Int → Int) (i k : Nat) : Int := if i < k then clk E rm i (E i).who else 0
def yesK9 (E : Nat → Ev) (rm : Int → Int) (i j k : Nat) : Bool := if j < k then decide (clk E rm i (E i).who ≤ clk E rm j (E i).who) else false
section
variable {w0 w : World} {S : Sys} {A : Option Addr} {c : Nat} {R : Option Addr} {d n r : Nat} {E : Nat → Ev} {B : Option Addr} {cb i j : Nat}
def BfInv (w0 : World) (E : Nat → Ev) (rm : Int → Int) (B : Option Addr) (n cb i j b8 b6 b11 b9 b12 : Nat) (k : Nat) (u : World) (D : List Nat) : Prop :=
 D = [b8, b6, b11, b9, b12] ∧ BfAt w0 u B n cb i j b8 b6 b11 b9 b12 (ownK9 E rm i k) (yesK9 E rm i j k)
theorem bfInv_ok {rm : Int → Int} {b8 b6 b11 b9 b12 k : Nat} : IvOk w0 (BfInv w0 E rm B n cb i j b8 b6 b11 b9 b12 k) := by
 rintro W u D S ⟨rfl, h⟩ K hS
 have ns : ∀ b, b ∈ [b8, b6, b11, b9, b12] → b ∉ S := fun b hb hm => (hS b hm).1 hb
 exact ⟨rfl, h.keep.trans K (fun b hb hlt => by have := (hS b hb).2; omega), h.h8.keeps K (ns _ (by simp)), h.h6.keeps K (ns _ (by simp)), h.h11.keeps K (ns _ (by simp)), h.h9.keeps K (ns _ (by simp)), h.h12.keeps K (ns _ (by simp)), h.nd, h.lt⟩
theorem bf_see {rm : Int → Int} {b8 b6 b11 b9 b12 k wi : Nat} (hE : EvsAt w0 B n E) (hi : i < n) (hij : i < j) (hj : j ≤ 40000) (hw : (E i).who = (wi : Int)) (hwr : wi < r) (hk : k < j + 1) (u : World) (D : List Nat) (g : Nat) (hI : BfInv w0 E rm B n cb i j b8 b6 b11 b9 b12 k u D) (hg : g ∉ D) (hc : ClkAt u g r (clk E rm k)) :
   Calls Try.prog 101 (#[.int .i64 (k : Int), .slice (some ⟨g, 0, none⟩) r r] ++ #[.pointer (some ⟨b8, 0, none⟩), .pointer (some ⟨b6, 0, none⟩), .pointer (some ⟨b11, 0, none⟩), .pointer (some ⟨b9, 0, none⟩), .pointer (some ⟨b12, 0, none⟩)]) u (SeePost (BfInv w0 E rm B n cb i j b8 b6 b11 b9 b12 (k + 1)) true u D) := by
 obtain ⟨rfl, hA⟩ := hI
 have hgn : g ≠ b11 ∧ g ≠ b12 := ⟨fun e => hg (by simp [e]), fun e => hg (by simp [e])⟩
 have fin : ∀ (own' : Int) (yes' : Bool), own' = ownK9 E rm i (k + 1) → yes' = yesK9 E rm i j (k + 1) → ∀ e u', BPost w0 B n cb i j b8 b6 b11 b9 b12 own' yes' u e u' → SeePost (BfInv w0 E rm B n cb i j b8 b6 b11 b9 b12 (k + 1)) true u [b8, b6, b11, b9, b12] e u' := by
   rintro own' yes' rfl rfl e u' ⟨rfl, h, K⟩
   refine ⟨rfl, ⟨_, ⟨rfl, h⟩, fun q hq => .inl hq, fun q hq => ?_⟩, K.wide (fun b hb => by simp only [List.mem_cons, List.not_mem_nil, or_false] at hb ⊢; rcases hb with rfl | rfl <;> simp)⟩
   simp only [List.mem_cons, List.not_mem_nil, or_false] at hq
   rcases hq with rfl | rfl | rfl | rfl | rfl
   · exact h.h8.lt
   · exact h.h6.lt
   · exact h.h11.lt
   · exact h.h9.lt
   · exact h.h12.lt
 by_cases ei : k = i
 · subst ei
   exact (bclo_i hA hE hc hi hw hwr hgn hj (by omega)).mono (fin _ _ (by unfold ownK9; rw [if_pos (by omega), ← hw]) (by unfold yesK9; rw [if_neg (by omega), if_neg (by omega)]))
 · by_cases ej : k = j
   · subst ej
     refine (bclo_j hA hE hc hi hw hwr hgn hj (by omega)).mono (fin _ _ ?_ ?_)
     · unfold ownK9; rw [if_pos (by omega), if_pos (by omega)]
     · unfold ownK9 yesK9; rw [if_pos (by omega), if_pos (by omega), ← hw]
   · refine (bclo_o hA hE hc hi hw hwr hgn hj ei ej).mono (fin _ _ ?_ ?_)
     · unfold ownK9
       by_cases h : i < k
       · rw [if_pos h, if_pos (by omega)]
       · rw [if_neg h, if_neg (by omega)]
     · unfold yesK9; rw [if_neg (by omega), if_neg (by omega)]
set_option maxRecDepth 100000 in
set_option maxHeartbeats 2000000 in
theorem before_any (hS : SysIn w S A c R d) (hE : EvsAt w B n E) (hrm : ∀ q, q < S.nr → 1 ≤ S.rm q ∧ S.rm q ≤ 1000000) (hok : OkAll S E n) (hn : n ≤ 40000) (hwf : ∀ i, i < n → (Lit.int .i64 (E i).a).wf = true) (hr : (stN E n).r ≤ r) (hr2 : r ≤ 1000000) (hi : i < n) (hj : j < n) (hcb : n ≤ cb) :
   Calls Try.prog 79 #[.agg (sysV S A c R d), .slice B n cb, .int .i64 (r : Int), .int .i64 (i : Int), .int .i64 (j : Int)] w fun e u => e = .returned (.bool (befB E (rmS S) i j)) ∧ Keeps w u [] := by
 have O := Own.start w []
 by_cases hij : i < j
 · obtain ⟨ad, rfl, _⟩ := hE (by omega)
   have HF := Lib.hid (show befB E (rmS S) i j = decide (clk E (rmS S) i (E i).who ≤ clk E (rmS S) j (E i).who) by unfold befB; rw [decide_eq_true hij]; rfl)
   obtain ⟨hw1, hw2, _⟩ := ok_head (hok i hi)
   obtain ⟨wi, hwi⟩ : ∃ wi : Nat, (E i).who = (wi : Int) := ⟨(E i).who.toNat, by omega⟩
   have hwr : wi < r := by
     have := stN_r_mono E (show i ≤ n by omega)
     omega
   have HT := Lib.hid (fun W (K : Keeps w W []) b8 b6 b11 b9 b12 (h0 : BfInv w E (rmS S) (some ad) n cb i j b8 b6 b11 b9 b12 0 W [b8, b6, b11, b9, b12]) (hlt : ∀ b ∈ [b8, b6, b11, b9, b12], w.heap.size ≤ b ∧ b < W.heap.size) => ticks_any (cb := cb) (m := j + 1) (r := r) 101 #[.pointer (some ⟨b8, 0, none⟩), .pointer (some ⟨b6, 0, none⟩), .pointer (some ⟨b11, 0, none⟩), .pointer (some ⟨b9, 0, none⟩), .pointer (some ⟨b12, 0, none⟩)] (BfInv w E (rmS S) (some ad) n cb i j b8 b6 b11 b9 b12) (fun _ => true) [b8, b6, b11, b9, b12] K hS (evs_le hE (by omega)) hrm (fun k hk => hok k (by omega)) (by omega) (fun k hk => hwf k (by omega)) (by have := stN_r_mono E (show j + 1 ≤ n by omega); omega) hr2 fn101 (fun k => bfInv_ok) h0 hlt (fun k hk u D g h1 h2 h3 => bf_see hE hi hij (by omega) hwi hwr hk u D g h1 h2 h3))
   have g1 : decide (j ≤ i) = false := decide_eq_false (by omega)
   have g2 : (n : Int) ≤ cb := by omega
   have g3 : ((j : Nat) : Int) + 1 ≤ cb := by omega
   have g4 : ¬ (j : Int) ≤ (i : Int) := by omega
   have HIJ := Lib.hid hij
   have hj6 : j ≤ 40000 := by omega
   clear hS hE hrm hok hwf hr hi hj hcb hij hw1 hw2 hwi hwr
   go_enter Try.func79, Try.ntmps79
   go_wp2_with (first
     | (refine own_box 5 (sysV S A c R d) O rfl rfl rfl rfl ?_; clear O; intro W b5 O; simp only [Act.put, kA, kZ, kS])
     | (refine own_box1 6 (.slice (some ad) n cb) O rfl rfl rfl rfl rfl ?_; clear O; intro W b6 O; simp only [Act.put, kA, kZ, kS])
     | (refine own_box1 8 (.int .i64 (i : Int)) O rfl rfl rfl rfl rfl ?_; clear O; intro W b8 O; simp only [Act.put, kA, kZ, kS])
     | (refine own_box1 9 (.int .i64 (j : Int)) O rfl rfl rfl rfl rfl ?_; clear O; intro W b9 O; simp only [Act.put, kA, kZ, kS]; have c8 := (O.get 1 rfl).cell 0; have c9 := (O.get 0 rfl).cell 0)
     | (refine own_alloc1 11 (.int .i64 0) O rfl rfl rfl (fun _ => by kernel_rfl) rfl ?_; clear O c8 c9; intro W b11 O; simp only [Act.put, kA, kZ, kS])
     | (refine own_alloc1 12 (.bool false) O rfl rfl rfl (fun _ => by kernel_rfl) rfl ?_; clear O; intro W b12 O; simp only [Act.put, kA, kZ, kS])
     | (refine own_store 1 0 (.int .i64 0) (.tmp 11) (.const (.int .i64 0)) O rfl rfl rfl rfl rfl rfl (by decide) rfl rfl (by kernel_rfl) rfl ?_; clear O; intro W O; simp only [kZ, kS] at O)
     | (refine own_store 0 0 (.bool false) (.tmp 12) (.const (.bool false)) O rfl rfl rfl rfl rfl rfl (by decide) rfl rfl (by kernel_rfl) rfl ?_; clear O; intro W O; simp only [kZ, kS] at O))
   have H12 := O.get 0 rfl
   have H11 := O.get 1 rfl
   have H9 := O.get 2 rfl
   have H8 := O.get 3 rfl
   have H6 := O.get 4 rfl
   have H5 := O.get 5 rfl
   have HI := Lib.hid (show BfInv w E (rmS S) (some ad) n cb i j b8 b6 b11 b9 b12 0 W [b8, b6, b11, b9, b12] from ⟨rfl, O.keep, H8, H6, by unfold ownK9; rw [if_neg (Nat.not_lt_zero i)]; exact H11, H9, by unfold yesK9; rw [if_neg (Nat.not_lt_zero j)]; exact H12, ⟨O.apart (i := 3) (j := 1) rfl rfl (by decide), O.apart (i := 2) (j := 1) rfl rfl (by decide)⟩, ⟨(own_at O 1 rfl).1, (own_at O 0 rfl).1⟩⟩)
   have HL := Lib.hid (show ∀ b ∈ [b8, b6, b11, b9, b12], w.heap.size ≤ b ∧ b < W.heap.size by
     intro b hb
     simp only [List.mem_cons, List.not_mem_nil, or_false] at hb
     rcases hb with h | h | h | h | h
     · rw [h]; exact own_at O 3 rfl
     · rw [h]; exact own_at O 4 rfl
     · rw [h]; exact own_at O 1 rfl
     · rw [h]; exact own_at O 2 rfl
     · rw [h]; exact own_at O 0 rfl)
   have HK := Lib.hid O.keep
   have c5 : ∀ u, (∃ p : Later W, u = p.1) → ∀ k, k < (sysV S A c R d).size → u.cell? ((⟨b5, 0, none⟩ : Addr).add k) = (sysV S A c R d)[k]? := fun u hu k _ => by
     obtain ⟨p, rfl⟩ := hu
     exact blk_add (H5.keeps p.2 (by simp)) k
   have c6 : ∀ q : Later W, q.1.cell? ⟨b6, 0, none⟩ = some (.slice (some ad) n cb) := fun q => (H6.keeps q.2 (by simp)).cell 0
   have c9 : ∀ q : Later W, q.1.cell? ⟨b9, 0, none⟩ = some (.int .i64 (j : Int)) := fun q => (H9.keeps q.2 (by simp)).cell 0
   clear H12 H11 H9 H8 H6 H5
   refine wp_quiet_tail_later 7 (by kernel_rfl) (by kernel_rfl) ?_
   simp only [List.take, List.drop]
   repeat (first
     | go_big_quiet_skip
     | (refine wpQuiet_load_at (cs := sysV S A c R d) 16 rfl rfl rfl rfl c5 Try.underlying27 rfl (by kernel_rfl) ?_; simp only [Act.put, kA, kZ, kS])
     | go_big_quiet_step (fail))
   refine kq fun p' => ?_
   replace O := O.keeps p'.2
   replace HI := Lib.hid (bfInv_ok _ _ _ [] HI.out p'.2 (fun b hb => absurd hb (by simp)))
   replace HL := Lib.hid (fun b hb => And.intro (HL.out b hb).1 (Nat.lt_of_lt_of_le (HL.out b hb).2 p'.2.size))
   clear HK c5 c6 c9
   generalize p'.1 = W2 at O HI HL ⊢
   go_wp2_with (go_at_call 72; refine (HT.out _ O.keep b8 b6 b11 b9 b12 HI.out HL.out).mono ?_; rintro e W3 ⟨rfl, K3, k, D, hI, hk⟩; have hkj : k = j + 1 := (hk.elim (fun h => h.1) (fun h => absurd (Exists.choose_spec h).2.2.1 (by simp))); subst hkj; clear hk; obtain ⟨rfl, hB⟩ := hI; have HK := Lib.hid hB.keep; have c12 := hB.h12.cell 0; clear hB)
   go_ret
   refine ⟨?_, HK.out⟩
   rw [HF.out]
   unfold yesK9
   rw [if_pos (by omega)]
   rfl
 · have HF := Lib.hid (show befB E (rmS S) i j = false by unfold befB; rw [decide_eq_false hij]; rfl)
   have g1 : decide (j ≤ i) = true := decide_eq_true (by omega)
   have g4 : (j : Int) ≤ (i : Int) := by omega
   clear hS hE hrm hok hwf hij
   go_enter Try.func79, Try.ntmps79
   go_wp2_with (first
     | (refine own_box 5 (sysV S A c R d) O rfl rfl rfl rfl ?_; clear O; intro W b5 O; simp only [Act.put, kA, kZ, kS])
     | (refine own_box1 6 (.slice B n cb) O rfl rfl rfl rfl rfl ?_; clear O; intro W b6 O; simp only [Act.put, kA, kZ, kS])
     | (refine own_box1 8 (.int .i64 (i : Int)) O rfl rfl rfl rfl rfl ?_; clear O; intro W b8 O; simp only [Act.put, kA, kZ, kS])
     | (refine own_box1 9 (.int .i64 (j : Int)) O rfl rfl rfl rfl rfl ?_; clear O; intro W b9 O; simp only [Act.put, kA, kZ, kS]; have c8 := (O.get 1 rfl).cell 0; have c9 := (O.get 0 rfl).cell 0))
   go_ret
   exact ⟨by rw [HF.out]; rfl, O.keep⟩
end
open Go.RowKit
section
variable {S : Sys} {E : Nat → Ev} {rm : Int → Int} {n i j k : Nat}
theorem lastN_some {w : Int} : ∀ {j : Nat}, i < j → (E i).who = w → ∃ l : Nat, lastN E w j = some (l : Int) ∧ i ≤ l ∧ l < j ∧ (E l).who = w
 | j + 1, h, hw => by
   by_cases e : (E j).who = w
   · exact ⟨j, by simp [lastN, e], by omega, by omega, e⟩
   · have hij : i ≠ j := fun e' => e (e' ▸ hw)
     obtain ⟨l, h1, h2, h3, h4⟩ := lastN_some (j := j) (by omega) hw
     exact ⟨l, by simp [lastN, e, h1], h2, by omega, h4⟩
theorem own_last {l : Nat} {w : Int} (h : lastN E w j = some (l : Int)) : (l : Int) ∈ ownL (lkN E j) w := by
 rw [ownL_lk, h]
 simp
theorem own_behind (hok : OkAll S E n) : ∀ j, j < n → ∀ i, i < j → (E i).who = (E j).who → Bh E rm i j := by
 intro j
 induction j using Nat.strongRecOn with
 | ind j ih =>
   intro hj i hij hw
   obtain ⟨l, h1, h2, h3, h4⟩ := lastN_some hij hw
   have hm : (l : Int) ∈ intoL E rm j := (intoL_mem (hok _ hj) _).2 ⟨List.mem_append_left _ (own_last h1), by omega⟩
   by_cases e : i = l
   · subst e; exact .edge hm
   · exact .step (ih l h3 (by omega) i (by omega) (by rw [hw, h4])) hm
theorem edge_le (hok : OkAll S E n) (hj : j < n) (h : (i : Int) ∈ intoL E rm j) (w : Int) : clk E rm i w + (if (E j).who = w then 1 else 0) ≤ clk E rm j w := by
 rw [clk_eq (hok _ hj) w]
 have := maxL_le (List.mem_map.2 ⟨(i : Int), h, rfl⟩ : clk E rm i w ∈ (intoL E rm j).map fun x => clk E rm x w)
 omega
theorem bh_le (hok : OkAll S E n) (h : Bh E rm i j) (w : Int) (hj : j < n) : clk E rm i w + (if (E j).who = w then 1 else 0) ≤ clk E rm j w := by
 induction h with
 | edge h => exact edge_le hok hj h w
 | step _ h ih =>
   have h1 := intoL_lt (hok _ hj) h
   have h2 := ih (by omega)
   have h3 := edge_le hok hj h w
   split at h2 <;> omega
theorem clk_from (hok : OkAll S E n) (w : Int) : ∀ j, j < n → 0 < clk E rm j w → ∃ i, (E i).who = w ∧ clk E rm i w = clk E rm j w ∧ (i = j ∨ Bh E rm i j) := by
 intro j
 induction j using Nat.strongRecOn with
 | ind j ih =>
   intro hj h0
   by_cases e : (E j).who = w
   · exact ⟨j, e, rfl, .inl rfl⟩
   · have hc := clk_eq (rm := rm) (hok _ hj) w
     rw [if_neg e, Int.add_zero] at hc
     rcases maxL_mem ((intoL E rm j).map fun x => clk E rm x w) with h | h
     · omega
     · obtain ⟨x, hx, hx2⟩ := List.mem_map.1 h
       obtain ⟨h1, h2⟩ := intoL_lt (hok _ hj) hx
       obtain ⟨p, rfl⟩ : ∃ p : Nat, x = (p : Int) := ⟨x.toNat, by omega⟩
       have he : clk E rm p w = clk E rm j w := by rw [hc]; exact hx2
       obtain ⟨i, hi, hi2, hi3⟩ := ih p (by omega) (by omega) (by omega)
       refine ⟨i, hi, by rw [hi2, he], .inr ?_⟩
       rcases hi3 with rfl | hi3
       · exact .edge hx
       · exact .step hi3 hx
theorem bh_clk (hok : OkAll S E n) (hi : i < n) (hj : j < n) : Bh E rm i j ↔ i < j ∧ clk E rm i (E i).who ≤ clk E rm j (E i).who := by
 constructor
 · intro h
   have := bh_le hok h (E i).who hj
   refine ⟨h.lt hok hj, ?_⟩
   split at this <;> omega
 · rintro ⟨hlt, hle⟩
   have h1 : 1 ≤ clk E rm i (E i).who := by
     rw [clk_eq (hok _ hi), if_pos rfl]
     have := maxL_nonneg ((intoL E rm i).map fun x => clk E rm x (E i).who)
     omega
   obtain ⟨q, hq, hq2, hq3⟩ := clk_from (rm := rm) hok (E i).who j hj (by omega)
   have hqj : q ≤ j := by
     rcases hq3 with rfl | h
     · omega
     · have := h.lt hok hj; omega
   rcases Nat.lt_trichotomy q i with h | rfl | h
   · have := bh_le hok (own_behind (rm := rm) hok i hi q h hq) (E i).who hi
     rw [if_pos rfl] at this
     omega
   · rcases hq3 with rfl | h
     · omega
     · exact h
   · have hb := own_behind (rm := rm) hok q (by omega) i h hq.symm
     rcases hq3 with rfl | h'
     · exact hb
     · exact hb.trans h'
theorem bef_beh (hok : OkAll S E n) (hi : i < n) (hj : j < n) : befB E rm i j = behT E rm i n (j : Int) := by
 rw [Bool.eq_iff_iff, behT_iff hok j hj, bh_clk hok hi hj]
 unfold befB
 simp
end
open Go.RowKit
def pend (E : Nat → Ev) (n : Nat) (c : Int) : List Nat := (pickL (isSend E c) n).drop (pickL (isTake E c) n).length
section
variable {E : Nat → Ev} {rm : Int → Int} {n : Nat} {c : Int}
theorem pend_skip (h1 : isSend E c n = false) (h2 : isTake E c n = false) : pend E (n + 1) c = pend E n c := by
 unfold pend
 rw [pickL_succ, pickL_succ, h1, h2]
 simp
theorem pend_send (h1 : isSend E c n = true) (h2 : isTake E c n = false) (hle : (pickL (isTake E c) n).length ≤ (pickL (isSend E c) n).length) : pend E (n + 1) c = pend E n c ++ [n] := by
 unfold pend
 rw [pickL_succ, pickL_succ, h1, h2]
 simp only [if_true, Bool.false_eq_true, if_false, List.append_nil]
 rw [List.drop_append_of_le_length hle]
theorem pend_take {s : Nat} {r : List Nat} (h1 : isSend E c n = false) (h2 : isTake E c n = true) (hp : pend E n c = s :: r) : pend E (n + 1) c = r ∧ (pickL (isSend E c) n)[(pickL (isTake E c) n).length]? = some s ∧ (pickL (isTake E c) (n + 1)).length ≤ (pickL (isSend E c) (n + 1)).length := by
 unfold pend at hp
 have hlt : (pickL (isTake E c) n).length < (pickL (isSend E c) n).length := by
   rcases Nat.lt_or_ge (pickL (isTake E c) n).length (pickL (isSend E c) n).length with h | h
   · exact h
   · rw [List.drop_eq_nil_of_le h] at hp; cases hp
 have hd := List.drop_eq_getElem_cons hlt
 rw [hp] at hd
 injection hd with e1 e2
 refine ⟨?_, by rw [List.getElem?_eq_getElem hlt, e1], ?_⟩
 · unfold pend
   rw [pickL_succ, pickL_succ, h1, h2]
   simp only [if_true, Bool.false_eq_true, if_false, List.append_nil, List.length_append, List.length_singleton]
   exact e2.symm
 · rw [pickL_succ, pickL_succ, h1, h2]
   simp only [if_true, Bool.false_eq_true, if_false, List.append_nil, List.length_append, List.length_singleton]
   omega
theorem take_edge {s : Nat} (h6 : (E n).op = 6) (hs : (E n).sh = false) (hk : (pickL (isSend E (E n).a) n)[(pickL (isTake E (E n).a) n).length]? = some s) : Bh E rm s n := by
 refine .edge ?_
 unfold intoL
 rw [(sc_law _).2]
 unfold nextR
 rw [if_neg (by omega), if_pos h6, if_neg (by rw [hs]; simp), lk_r0, lk_r1]
 refine List.mem_append_right _ ?_
 rw [natL_length, List.getD_eq_getElem?_getD]
 have e : (natL (pickL (isSend E (E n).a) n))[(pickL (isTake E (E n).a) n).length]? = some (s : Int) := by
   unfold natL
   rw [List.getElem?_map, hk]
   rfl
 rw [e]
 simp
structure ChN (held : List Int) (E : Nat → Ev) (n : Nat) (c : Int) : Prop where
 le : (pickL (isTake E c) n).length ≤ (pickL (isSend E c) n).length
 eq : held = (pend E n c).map fun i => (E i).v
theorem ChN.skip {held : List Int} (h : ChN held E n c) (h1 : isSend E c n = false) (h2 : isTake E c n = false) : ChN held E (n + 1) c :=
 ⟨by rw [pickL_succ, pickL_succ, h1, h2]; simpa using h.le, by rw [pend_skip h1 h2]; exact h.eq⟩
theorem ChN.send {held : List Int} (h : ChN held E n c) (h1 : isSend E c n = true) (h2 : isTake E c n = false) : ChN (held ++ [(E n).v]) E (n + 1) c :=
 ⟨by rw [pickL_succ, pickL_succ, h1, h2]; have := h.le; simp; omega, by rw [pend_send h1 h2 h.le, List.map_append, ← h.eq]; rfl⟩
theorem ChN.take {x : Int} {l : List Int} (h : ChN (x :: l) E n c) (h1 : isSend E c n = false) (h2 : isTake E c n = true) : ∃ s, pend E n c = s :: pend E (n + 1) c ∧ (E s).v = x ∧ (pickL (isSend E c) n)[(pickL (isTake E c) n).length]? = some s ∧ ChN l E (n + 1) c := by
 have he := h.eq
 cases hp : pend E n c with
 | nil => rw [hp] at he; cases he
 | cons s r =>
   rw [hp, List.map_cons] at he
   injection he with e1 e2
   obtain ⟨q1, q2, q3⟩ := pend_take h1 h2 hp
   exact ⟨s, by rw [q1], e1.symm, q2, q3, by rw [q1]; exact e2⟩
end
def Acc (E : Nat → Ev) (a : Nat) (x : Int) : Prop := ((E a).op = 12 ∨ (E a).op = 13) ∧ (E a).a = x
def Past (E : Nat → Ev) (rm : Int → Int) (n : Nat) (a : Nat) (who : Int) : Prop := ∃ e, e < n ∧ (E e).who = who ∧ (a = e ∨ Bh E rm a e)
section
variable {S : Sys} {E : Nat → Ev} {rm : Int → Int} {n a : Nat} {who : Int}
theorem Past.succ (h : Past E rm n a who) : Past E rm (n + 1) a who := by
 obtain ⟨e, h1, h2, h3⟩ := h
 exact ⟨e, by omega, h2, h3⟩
theorem Past.bh (hok : OkAll S E (n + 1)) (h : Past E rm n a who) (hw : (E n).who = who) : Bh E rm a n := by
 obtain ⟨e, h1, h2, h3⟩ := h
 have hb : Bh E rm e n := own_behind hok n (by omega) e h1 (by rw [h2, hw])
 rcases h3 with rfl | h3
 · exact hb
 · exact h3.trans hb
theorem Past.here (hw : (E n).who = who) (h : a = n ∨ Bh E rm a n) : Past E rm (n + 1) a who := ⟨n, by omega, hw, h⟩
end
inductive Loc where
 | un
 | ch2
 | ch0
 | fd
 | wk (q : Nat)
structure Tk (W b : Nat) (hd : Hd) (sent : Nat) (E : Nat → Ev) (rm : Int → Int) (n : Nat) (tl : Nat → Loc) : Prop where
 p2 : ∀ s ∈ pend E n 2, ∃ k : Nat, k < b ∧ (E s).v = k ∧ tl k = .ch2
 d2 : ((pend E n 2).map fun i => (E i).v).Nodup
 p0 : ∀ s ∈ pend E n 0, ∃ k : Nat, k < b ∧ (E s).v = k ∧ tl k = .ch0
 d0 : ((pend E n 0).map fun i => (E i).v).Nodup
 f : ∀ x, hd.tf = some x → ∃ k : Nat, k < b ∧ x = k ∧ tl k = .fd
 w : ∀ q x, hd.tw q = some x → ∃ k : Nat, k < b ∧ x = k ∧ tl k = .wk q
 un : ∀ k, sent ≤ k → k < b → tl k = .un
 o2 : ∀ s ∈ pend E n 2, ∀ a, a < n → Acc E a (E s).v → Bh E rm a s
 o0 : ∀ s ∈ pend E n 0, ∀ a, a < n → Acc E a (E s).v → Bh E rm a s
 of : ∀ x, hd.tf = some x → ∀ a, a < n → Acc E a x → Past E rm n a ((W : Int) + 1)
 ow : ∀ q x, hd.tw q = some x → ∀ a, a < n → Acc E a x → Past E rm n a ((q : Int) + 1)
 ou : ∀ a x, a < n → Acc E a x → 0 ≤ x ∧ x < sent
 race : ∀ a j x, a < j → j < n → Acc E a x → Acc E j x → Bh E rm a j
section
variable {S : Sys} {W b : Nat} {hd hd' : Hd} {sent : Nat} {E : Nat → Ev} {rm : Int → Int} {n : Nat} {tl : Nat → Loc}
theorem Tk.start : Tk W b ⟨none, false, fun _ => none, fun _ => none, fun _ => false, none⟩ 0 E rm 0 (fun _ => .un) := by
 have hp : ∀ c, pend E 0 c = [] := fun c => rfl
 refine ⟨fun s h => (by rw [hp] at h; simp at h), by rw [hp]; simp, fun s h => (by rw [hp] at h; simp at h), by rw [hp]; simp, fun x h => (by cases h), fun q x h => (by cases h), fun _ _ _ => rfl, fun s h => (by rw [hp] at h; simp at h), fun s h => (by rw [hp] at h; simp at h), fun x h => (by cases h), fun q x h => (by cases h), fun a x h => by omega, fun a j x _ h => by omega⟩
theorem Tk.skip (h : Tk W b hd sent E rm n tl) (h2 : pend E (n + 1) 2 = pend E n 2) (h0 : pend E (n + 1) 0 = pend E n 0) (hop : (E n).op ≠ 12 ∧ (E n).op ≠ 13) (hf : hd'.tf = hd.tf) (hw : hd'.tw = hd.tw) : Tk W b hd' sent E rm (n + 1) tl := by
 have na : ∀ a x, a < n + 1 → Acc E a x → a < n := fun a x ha hx => by
   by_cases e : a = n
   · subst e; rcases hx.1 with h | h
     · exact absurd h hop.1
     · exact absurd h hop.2
   · omega
 refine ⟨by rw [h2]; exact h.p2, by rw [h2]; exact h.d2, by rw [h0]; exact h.p0, by rw [h0]; exact h.d0, by rw [hf]; exact h.f, by rw [hw]; exact h.w, h.un, fun s hs a ha hx => h.o2 s (by rw [← h2]; exact hs) a (na a _ ha hx) hx, fun s hs a ha hx => h.o0 s (by rw [← h0]; exact hs) a (na a _ ha hx) hx, fun x hx a ha hc => (h.of x (by rw [← hf]; exact hx) a (na a _ ha hc) hc).succ, fun q x hx a ha hc => (h.ow q x (by rw [← hw]; exact hx) a (na a _ ha hc) hc).succ, fun a x ha hc => h.ou a x (na a x ha hc) hc, fun a j x haj hj hc hc' => h.race a j x haj (na j x hj hc') hc hc'⟩
theorem acc_old {a : Nat} {x : Int} (hop : (E n).op = 5 ∨ (E n).op = 6) (ha : a < n + 1) (hx : Acc E a x) : a < n := by
 by_cases e : a = n
 · subst e; rcases hx.1 with h | h <;> omega
 · omega
theorem updN_at {α : Type} (f : Nat → α) (i j : Nat) (x : α) (h : j = i) : updN f i x j = x := by rw [h]; simp [updN]
theorem updN_ne {α : Type} (f : Nat → α) (i j : Nat) (x : α) (h : j ≠ i) : updN f i x j = f j := by simp [updN, h]
theorem Tk.born (h : Tk W b hd sent E rm n tl) (hE : (E n).op = 5) (hv : (E n).v = sent) (hs : sent < b) (h2 : pend E (n + 1) 2 = pend E n 2 ++ [n]) (h0 : pend E (n + 1) 0 = pend E n 0) : Tk W b hd (sent + 1) E rm (n + 1) (updN tl sent .ch2) := by
 have hu := h.un sent (Nat.le_refl _) hs
 have ne : ∀ k, tl k ≠ .un → k ≠ sent := fun k hk e => by subst e; exact hk hu
 have old : ∀ {a : Nat} {x : Int}, a < n + 1 → Acc E a x → a < n := fun ha hx => acc_old (.inl hE) ha hx
 refine ⟨fun s hs' => ?_, ?_, fun s hs' => ?_, by rw [h0]; exact h.d0, fun x hx => ?_, fun q x hx => ?_, fun k h1 h2' => ?_, fun s hs' a ha hx => ?_, fun s hs' a ha hx => ?_, fun x hx a ha hc => (h.of x hx a (old ha hc) hc).succ, fun q x hx a ha hc => (h.ow q x hx a (old ha hc) hc).succ, fun a x ha hc => ?_, fun a j x haj hj hc hc' => h.race a j x haj (old hj hc') hc hc'⟩
 · rw [h2, List.mem_append, List.mem_singleton] at hs'
   rcases hs' with hs' | rfl
   · obtain ⟨k, k1, k2, k3⟩ := h.p2 s hs'
     exact ⟨k, k1, k2, by rw [updN_ne _ _ _ _ (ne k (by rw [k3]; exact fun e => by cases e)), k3]⟩
   · exact ⟨sent, hs, hv, updN_at _ _ _ _ rfl⟩
 · rw [h2, List.map_append, List.nodup_append]
   refine ⟨h.d2, by simp, fun x hx y hy e => ?_⟩
   obtain ⟨s, hs', rfl⟩ := List.mem_map.1 hx
   obtain ⟨k, _, k2, k3⟩ := h.p2 s hs'
   have : (sent : Int) = k := by
     have hy' : y = sent := by simpa [hv] using hy
     rw [← hy', ← e, k2]
   exact ne k (by rw [k3]; exact fun e => by cases e) (by omega)
 · rw [h0] at hs'
   obtain ⟨k, k1, k2, k3⟩ := h.p0 s hs'
   exact ⟨k, k1, k2, by rw [updN_ne _ _ _ _ (ne k (by rw [k3]; exact fun e => by cases e)), k3]⟩
 · obtain ⟨k, k1, k2, k3⟩ := h.f x hx
   exact ⟨k, k1, k2, by rw [updN_ne _ _ _ _ (ne k (by rw [k3]; exact fun e => by cases e)), k3]⟩
 · obtain ⟨k, k1, k2, k3⟩ := h.w q x hx
   exact ⟨k, k1, k2, by rw [updN_ne _ _ _ _ (ne k (by rw [k3]; exact fun e => by cases e)), k3]⟩
 · rw [updN_ne _ _ _ _ (by omega)]; exact h.un k (by omega) h2'
 · rw [h2, List.mem_append, List.mem_singleton] at hs'
   rcases hs' with hs' | rfl
   · exact h.o2 s hs' a (old ha hx) hx
   · rw [hv] at hx
     have := h.ou a _ (old ha hx) hx
     omega
 · rw [h0] at hs'; exact h.o0 s hs' a (old ha hx) hx
 · have := h.ou a x (old ha hc) hc
   omega
theorem Tk.move (h : Tk W b hd sent E rm n tl) (k : Nat) (dst : Loc) (hto : dst ≠ .un) (hk : tl k ≠ .un)
   (p2 : ∀ s ∈ pend E (n + 1) 2, (s ∈ pend E n 2 ∧ (E s).v ≠ k) ∨ (s = n ∧ (E n).v = k ∧ dst = .ch2 ∧ ∀ a, a < n → Acc E a k → Bh E rm a n)) (d2 : ((pend E (n + 1) 2).map fun i => (E i).v).Nodup)
   (p0 : ∀ s ∈ pend E (n + 1) 0, (s ∈ pend E n 0 ∧ (E s).v ≠ k) ∨ (s = n ∧ (E n).v = k ∧ dst = .ch0 ∧ ∀ a, a < n → Acc E a k → Bh E rm a n)) (d0 : ((pend E (n + 1) 0).map fun i => (E i).v).Nodup)
   (f : ∀ x, hd'.tf = some x → (hd.tf = some x ∧ x ≠ k) ∨ (x = k ∧ dst = .fd ∧ ∀ a, a < n → Acc E a k → Past E rm (n + 1) a ((W : Int) + 1)))
   (w : ∀ q x, hd'.tw q = some x → (hd.tw q = some x ∧ x ≠ k) ∨ (x = k ∧ dst = .wk q ∧ ∀ a, a < n → Acc E a k → Past E rm (n + 1) a ((q : Int) + 1)))
   (hkb : k < b) (hop : (E n).op = 5 ∨ (E n).op = 6) : Tk W b hd' sent E rm (n + 1) (updN tl k dst) := by
 have old : ∀ {a : Nat} {x : Int}, a < n + 1 → Acc E a x → a < n := fun ha hx => acc_old hop ha hx
 refine ⟨fun s hs => ?_, d2, fun s hs => ?_, d0, fun x hx => ?_, fun q x hx => ?_, fun j h1 h2' => ?_, fun s hs a ha hx => ?_, fun s hs a ha hx => ?_, fun x hx a ha hc => ?_, fun q x hx a ha hc => ?_, fun a x ha hc => h.ou a x (old ha hc) hc, fun a j x haj hj hc hc' => h.race a j x haj (old hj hc') hc hc'⟩
 · rcases p2 s hs with ⟨h1, h2⟩ | ⟨rfl, h1, h2, _⟩
   · obtain ⟨j, k1, k2, k3⟩ := h.p2 s h1
     exact ⟨j, k1, k2, by rw [updN_ne _ _ _ _ (fun e => h2 (by rw [k2, e])), k3]⟩
   · exact ⟨k, hkb, h1, by rw [updN_at _ _ _ _ rfl, h2]⟩
 · rcases p0 s hs with ⟨h1, h2⟩ | ⟨rfl, h1, h2, _⟩
   · obtain ⟨j, k1, k2, k3⟩ := h.p0 s h1
     exact ⟨j, k1, k2, by rw [updN_ne _ _ _ _ (fun e => h2 (by rw [k2, e])), k3]⟩
   · exact ⟨k, hkb, h1, by rw [updN_at _ _ _ _ rfl, h2]⟩
 · rcases f x hx with ⟨h1, h2⟩ | ⟨h1, h2, _⟩
   · obtain ⟨j, k1, k2, k3⟩ := h.f x h1
     exact ⟨j, k1, k2, by rw [updN_ne _ _ _ _ (fun e => h2 (by rw [k2, e])), k3]⟩
   · exact ⟨k, hkb, h1, by rw [updN_at _ _ _ _ rfl, h2]⟩
 · rcases w q x hx with ⟨h1, h2⟩ | ⟨h1, h2, _⟩
   · obtain ⟨j, k1, k2, k3⟩ := h.w q x h1
     exact ⟨j, k1, k2, by rw [updN_ne _ _ _ _ (fun e => h2 (by rw [k2, e])), k3]⟩
   · exact ⟨k, hkb, h1, by rw [updN_at _ _ _ _ rfl, h2]⟩
 · rw [updN_ne _ _ _ _ (fun e => by subst e; exact hk (h.un j h1 h2'))]; exact h.un j h1 h2'
 · rcases p2 s hs with ⟨h1, h2⟩ | ⟨rfl, h1, _, h3⟩
   · exact h.o2 s h1 a (old ha hx) hx
   · rw [h1] at hx; exact h3 a (old ha hx) hx
 · rcases p0 s hs with ⟨h1, h2⟩ | ⟨rfl, h1, _, h3⟩
   · exact h.o0 s h1 a (old ha hx) hx
   · rw [h1] at hx; exact h3 a (old ha hx) hx
 · rcases f x hx with ⟨h1, h2⟩ | ⟨rfl, _, h3⟩
   · exact (h.of x h1 a (old ha hc) hc).succ
   · exact h3 a (old ha hc) hc
 · rcases w q x hx with ⟨h1, h2⟩ | ⟨rfl, _, h3⟩
   · exact (h.ow q x h1 a (old ha hc) hc).succ
   · exact h3 a (old ha hc) hc
theorem Tk.touch (h : Tk W b hd sent E rm n tl) (hok : OkAll S E (n + 1)) (k : Nat) (hkb : k < b) (hk : (tl k = .fd ∧ (E n).who = (W : Int) + 1 ∧ hd.tf = some (k : Int)) ∨ ∃ q : Nat, tl k = .wk q ∧ (E n).who = (q : Int) + 1 ∧ hd.tw q = some (k : Int)) (ha : (E n).a = k) (hop : (E n).op = 12 ∨ (E n).op = 13) (h2 : pend E (n + 1) 2 = pend E n 2) (h0 : pend E (n + 1) 0 = pend E n 0) (hf : hd'.tf = hd.tf) (hw : hd'.tw = hd.tw) : Tk W b hd' sent E rm (n + 1) tl := by
 have cse : ∀ {a : Nat} {x : Int}, a < n + 1 → Acc E a x → (a < n) ∨ (a = n ∧ x = k) := fun {a x} ha' hx => by
   by_cases e : a = n
   · subst e; exact .inr ⟨rfl, by rw [← hx.2, ha]⟩
   · exact .inl (by omega)
 have hall : ∀ a, a < n → Acc E a k → Bh E rm a n := fun a ha' hx => by
   rcases hk with ⟨_, h2, h3⟩ | ⟨q, _, h2, h3⟩
   · exact (h.of _ h3 a ha' hx).bh hok h2
   · exact (h.ow q _ h3 a ha' hx).bh hok h2
 have hun : tl k ≠ .un := by
   rcases hk with ⟨h1, _⟩ | ⟨q, h1, _⟩ <;> rw [h1] <;> exact fun e => by cases e
 have hsent : k < sent := Nat.lt_of_not_le fun hl => hun (h.un k hl hkb)
 refine ⟨by rw [h2]; exact h.p2, by rw [h2]; exact h.d2, by rw [h0]; exact h.p0, by rw [h0]; exact h.d0, by rw [hf]; exact h.f, by rw [hw]; exact h.w, h.un, fun s hs a ha' hx => ?_, fun s hs a ha' hx => ?_, fun x hx a ha' hc => ?_, fun q x hx a ha' hc => ?_, fun a x ha' hc => ?_, fun a j x haj hj hc hc' => ?_⟩
 · rw [h2] at hs
   rcases cse ha' hx with h1 | ⟨rfl, h1⟩
   · exact h.o2 s hs a h1 hx
   · obtain ⟨j, _, j2, j3⟩ := h.p2 s hs
     have : j = k := by omega
     subst this
     rcases hk with ⟨h1, _⟩ | ⟨q, h1, _⟩ <;> rw [j3] at h1 <;> cases h1
 · rw [h0] at hs
   rcases cse ha' hx with h1 | ⟨rfl, h1⟩
   · exact h.o0 s hs a h1 hx
   · obtain ⟨j, _, j2, j3⟩ := h.p0 s hs
     have : j = k := by omega
     subst this
     rcases hk with ⟨h1, _⟩ | ⟨q, h1, _⟩ <;> rw [j3] at h1 <;> cases h1
 · rw [hf] at hx
   rcases cse ha' hc with h1 | ⟨rfl, h1⟩
   · exact (h.of x hx a h1 hc).succ
   · obtain ⟨j, _, j2, j3⟩ := h.f x hx
     have : j = k := by omega
     subst this
     rcases hk with ⟨_, h2, _⟩ | ⟨q, h1, _⟩
     · exact Past.here h2 (.inl rfl)
     · rw [j3] at h1; cases h1
 · rw [hw] at hx
   rcases cse ha' hc with h1 | ⟨rfl, h1⟩
   · exact (h.ow q x hx a h1 hc).succ
   · obtain ⟨j, _, j2, j3⟩ := h.w q x hx
     have : j = k := by omega
     subst this
     rcases hk with ⟨h1, _⟩ | ⟨q', h1, h2, _⟩
     · rw [j3] at h1; cases h1
     · rw [j3] at h1; cases h1; exact Past.here h2 (.inl rfl)
 · rcases cse ha' hc with h1 | ⟨rfl, h1⟩
   · exact h.ou a x h1 hc
   · omega
 · rcases cse hj hc' with h1 | ⟨rfl, h1⟩
   · exact h.race a j x haj h1 hc hc'
   · rw [h1] at hc; exact hall a haj hc
end
open Go.RowKit Go.Maps Go.Deep
def rnC (r : Rn) : Array Value := #[.int .i64 r.prog, .int .i64 r.pos, .int .i64 (r.rg 0), .int .i64 (r.rg 1), .int .i64 (r.rg 2), .int .i64 (r.rg 3), .int .i64 (r.rg 4), .int .i64 (r.rg 5), .int .i64 (r.rg 6), .int .i64 (r.rg 7)]
theorem rnC_reg (r : Rn) (a : Nat) (h : a < 8) : (rnC r)[2 + a]? = some (.int .i64 (r.rg a)) := by
 match a, h with
 | 0, _ => rfl
 | 1, _ => rfl
 | 2, _ => rfl
 | 3, _ => rfl
 | 4, _ => rfl
 | 5, _ => rfl
 | 6, _ => rfl
 | 7, _ => rfl
theorem rnC_cell (r : Rn) : ∀ v ∈ (rnC r).toList, v.oneCell' = true := by
 intro v hv
 simp [rnC] at hv
 rcases hv with rfl | rfl | rfl | rfl | rfl | rfl | rfl | rfl | rfl | rfl <;> rfl
def WhoC (cur : Array Value) (n : Nat) (rs : Nat → Rn) : Prop := ∀ k, k < n → ∀ f, f < 10 → cur[k * 10 + f]? = (rnC (rs k))[f]?
theorem WhoC.prog {cur : Array Value} {n : Nat} {rs : Nat → Rn} (h : WhoC cur n rs) {k : Nat} (hk : k < n) : cur[k * 10]? = some (.int .i64 (rs k).prog) := h k hk 0 (by omega)
theorem WhoC.pos {cur : Array Value} {n : Nat} {rs : Nat → Rn} (h : WhoC cur n rs) {k : Nat} (hk : k < n) : cur[k * 10 + 1]? = some (.int .i64 (rs k).pos) := h k hk 1 (by omega)
theorem WhoC.reg {cur : Array Value} {n : Nat} {rs : Nat → Rn} (h : WhoC cur n rs) {k a : Nat} (hk : k < n) (ha : a < 8) : cur[k * 10 + 2 + a]? = some (.int .i64 ((rs k).rg a)) := by
 rw [Nat.add_assoc, h k hk (2 + a) (by omega), rnC_reg _ _ ha]
theorem WhoC.lt {cur : Array Value} {n : Nat} {rs : Nat → Rn} (h : WhoC cur n rs) {k f : Nat} (hk : k < n) (hf : f < 10) : k * 10 + f < cur.size := by
 have h1 := h k hk f hf
 rcases Nat.lt_or_ge (k * 10 + f) cur.size with h2 | h2
 · exact h2
 · rw [Array.getElem?_eq_none h2] at h1
   have : f < (rnC (rs k)).size := by show f < 10; omega
   rw [Array.getElem?_eq_getElem this] at h1
   cases h1
theorem WhoC.set_pos {cur : Array Value} {n : Nat} {rs : Nat → Rn} (h : WhoC cur n rs) {k on : Nat} (hk : k < n) : WhoC (cur.setIfInBounds (k * 10 + 1) (.int .i64 (on : Int))) n (fun j => if j = k then { rs k with pos := on } else rs j) := by
 intro j hj f hf
 show _ = (rnC (if j = k then { rs k with pos := on } else rs j))[f]?
 rw [Array.getElem?_setIfInBounds]
 have hl := h.lt hk (f := 1) (by omega)
 by_cases e : k * 10 + 1 = j * 10 + f
 · obtain rfl : j = k := by omega
   obtain rfl : f = 1 := by omega
   rw [if_pos e, if_pos hl, if_pos rfl]
   rfl
 · rw [if_neg e, h j hj f hf]
   by_cases hjk : j = k
   · subst hjk
     rw [if_pos rfl]
     match f, hf with
     | 0, _ => rfl
     | 1, _ => omega
     | 2, _ => rfl
     | 3, _ => rfl
     | 4, _ => rfl
     | 5, _ => rfl
     | 6, _ => rfl
     | 7, _ => rfl
     | 8, _ => rfl
     | 9, _ => rfl
   · rw [if_neg hjk]
theorem WhoC.set_reg {cur : Array Value} {n : Nat} {rs : Nat → Rn} (h : WhoC cur n rs) {k a : Nat} (v : Int) (hk : k < n) (ha : a < 8) : WhoC (cur.setIfInBounds (k * 10 + 2 + a) (.int .i64 v)) n (fun j => if j = k then setReg (rs k) a v else rs j) := by
 intro j hj f hf
 show _ = (rnC (if j = k then setReg (rs k) a v else rs j))[f]?
 rw [Array.getElem?_setIfInBounds]
 have hl := h.lt hk (f := 2 + a) (by omega)
 by_cases e : k * 10 + 2 + a = j * 10 + f
 · obtain rfl : j = k := by omega
   obtain rfl : f = 2 + a := by omega
   rw [if_pos e, if_pos (by omega), if_pos rfl, rnC_reg _ _ ha]
   simp [setReg]
 · rw [if_neg e, h j hj f hf]
   by_cases hjk : j = k
   · subst hjk
     rw [if_pos rfl]
     rcases Nat.lt_or_ge f 2 with h2 | h2
     · match f, h2 with
       | 0, _ => rfl
       | 1, _ => rfl
     · obtain ⟨b, rfl⟩ : ∃ b, f = 2 + b := ⟨f - 2, by omega⟩
       rw [rnC_reg _ _ (by omega), rnC_reg _ _ (by omega)]
       simp [setReg, show ¬ b = a by omega]
   · rw [if_neg hjk]
def whoL (rs : Nat → Rn) (n : Nat) : List Value := (List.range (n * 10)).map fun i => (rnC (rs (i / 10))).getD (i % 10) undef
theorem rnC_getD (r : Rn) (j : Nat) (h : j < 10) : (rnC r)[j]? = some ((rnC r).getD j undef) := by
 have h' : j < (rnC r).size := h
 simp [h']
theorem whoL_get (rs : Nat → Rn) (n i j : Nat) (hi : i < n) (hj : j < 10) : (whoL rs n)[i * 10 + j]? = (rnC (rs i))[j]? := by
 rw [rnC_getD _ _ hj]
 have h : i * 10 + j < n * 10 := by omega
 simp [whoL, h, show (i * 10 + j) / 10 = i by omega, show (i * 10 + j) % 10 = j by omega]
theorem whoL_length (rs : Nat → Rn) (n : Nat) : (whoL rs n).length = n * 10 := by simp [whoL]
theorem whoL_snoc (rs : Nat → Rn) (n : Nat) (r : Rn) : whoL rs n ++ (rnC r).toList = whoL (updN rs n r) (n + 1) := by
 have hs : (rnC r).toList.length = 10 := rfl
 apply List.ext_getElem?
 intro i
 rcases Nat.lt_or_ge i (n * 10) with hi | hi
 · rw [List.getElem?_append_left (by rw [whoL_length]; exact hi)]
   have e : i = (i / 10) * 10 + i % 10 := by omega
   rw [e, whoL_get _ _ _ _ (by omega) (by omega), whoL_get _ _ _ _ (by omega) (by omega)]
   unfold updN
   rw [if_neg (by omega)]
 · rw [List.getElem?_append_right (by rw [whoL_length]; exact hi), whoL_length]
   rcases Nat.lt_or_ge i ((n + 1) * 10) with h2 | h2
   · obtain ⟨f, rfl⟩ : ∃ f, i = n * 10 + f := ⟨i - n * 10, by omega⟩
     rw [show n * 10 + f - n * 10 = f by omega, whoL_get _ _ _ _ (by omega) (by omega), Array.getElem?_toList]
     simp [updN]
   · rw [List.getElem?_eq_none (by rw [hs]; omega), List.getElem?_eq_none (by rw [whoL_length]; omega)]
theorem WhoC.take {cur : Array Value} {n : Nat} {rs : Nat → Rn} (h : WhoC cur n rs) (_hs : n * 10 ≤ cur.size) : cur.toList.take (n * 10) = whoL rs n := by
 apply List.ext_getElem?
 intro i
 rcases Nat.lt_or_ge i (n * 10) with hi | hi
 · have e : i = (i / 10) * 10 + i % 10 := by omega
   rw [List.getElem?_take, if_pos hi, Array.getElem?_toList]
   rw [e, whoL_get _ _ _ _ (by omega) (by omega), h _ (by omega) _ (by omega)]
 · rw [List.getElem?_eq_none (by rw [List.length_take]; omega), List.getElem?_eq_none (by rw [whoL_length]; omega)]
theorem WhoC.of_take {cur : Array Value} {n : Nat} {rs : Nat → Rn} (h : cur.toList.take (n * 10) = whoL rs n) : WhoC cur n rs := by
 intro k hk f hf
 have h1 := congrArg (fun l => l[k * 10 + f]?) h
 simp only [List.getElem?_take] at h1
 rw [if_pos (by omega), Array.getElem?_toList, whoL_get _ _ _ _ hk hf] at h1
 exact h1
def pipesA (n : Nat) (hv : Nat → Value) (cl : Nat → Bool) : Array Value := (Array.range (n * 2)).map fun i => if i % 2 = 0 then hv (i / 2) else .bool (cl (i / 2))
@[go_sem] theorem pipesA_size (n : Nat) (hv : Nat → Value) (cl : Nat → Bool) : (pipesA n hv cl).size = n * 2 := by simp [pipesA]
theorem pipesA_hv (n : Nat) (hv : Nat → Value) (cl : Nat → Bool) (c : Nat) (h : c < n) : (pipesA n hv cl)[c * 2]? = some (hv c) := by
 have : c * 2 < n * 2 := by omega
 simp [pipesA, this]
theorem pipesA_cl (n : Nat) (hv : Nat → Value) (cl : Nat → Bool) (c : Nat) (h : c < n) : (pipesA n hv cl)[c * 2 + 1]? = some (.bool (cl c)) := by
 have h1 : c * 2 + 1 < n * 2 := by omega
 have h2 : (c * 2 + 1) / 2 = c := by omega
 have h3 : (c * 2 + 1) % 2 = 1 := by omega
 simp [pipesA, h1, h2, h3]
theorem pipesA_other (n : Nat) (hv : Nat → Value) (cl : Nat → Bool) (i : Nat) : (pipesA n hv cl)[i]? = if i < n * 2 then some (if i % 2 = 0 then hv (i / 2) else .bool (cl (i / 2))) else none := by
 by_cases h : i < n * 2 <;> simp [pipesA, h]
theorem pipesA_setH (n : Nat) (hv : Nat → Value) (cl : Nat → Bool) (c : Nat) (v : Value) : (pipesA n hv cl).setIfInBounds (c * 2) v = pipesA n (updN hv c v) cl := by
 apply Array.ext_getElem?
 intro i
 rw [Array.getElem?_setIfInBounds, pipesA_other, pipesA_other, pipesA_size]
 by_cases e : c * 2 = i
 · subst e
   rw [if_pos rfl]
   by_cases h : c * 2 < n * 2
   · simp [updN, h]
   · simp [h]
 · rw [if_neg e]
   by_cases h : i < n * 2
   · rw [if_pos h, if_pos h]
     by_cases h2 : i % 2 = 0
     · rw [if_pos h2, if_pos h2]
       unfold updN
       rw [if_neg (by omega)]
     · rw [if_neg h2, if_neg h2]
   · rw [if_neg h, if_neg h]
theorem pipesA_setC (n : Nat) (hv : Nat → Value) (cl : Nat → Bool) (c : Nat) (b : Bool) : (pipesA n hv cl).setIfInBounds (c * 2 + 1) (.bool b) = pipesA n hv (updN cl c b) := by
 apply Array.ext_getElem?
 intro i
 rw [Array.getElem?_setIfInBounds, pipesA_other, pipesA_other, pipesA_size]
 by_cases e : c * 2 + 1 = i
 · subst e
   rw [if_pos rfl]
   by_cases h : c * 2 + 1 < n * 2
   · rw [if_pos h, if_pos h, if_neg (by omega)]
     unfold updN
     rw [if_pos (by omega)]
   · rw [if_neg h, if_neg h]
 · rw [if_neg e]
   by_cases h : i < n * 2
   · rw [if_pos h, if_pos h]
     by_cases h2 : i % 2 = 0
     · rw [if_pos h2, if_pos h2]
     · rw [if_neg h2, if_neg h2]
       unfold updN
       rw [if_neg (by omega)]
   · rw [if_neg h, if_neg h]
def lE (E : List Ev) : Nat → Ev := fun i => E.getD i default
theorem evL_snoc (E : List Ev) (e : Ev) : evL (lE E) E.length ++ (evC e).toList = evL (lE (E ++ [e])) (E ++ [e]).length := by
 have hs : (evC e).toList.length = 5 := rfl
 apply List.ext_getElem?
 intro i
 simp only [List.length_append, List.length_singleton]
 rcases Nat.lt_or_ge i (E.length * 5) with hi | hi
 · rw [List.getElem?_append_left (by rw [evL_length]; exact hi)]
   have e' : i = (i / 5) * 5 + i % 5 := by omega
   rw [e', evL_get _ _ _ _ (by omega) (by omega), evL_get _ _ _ _ (by omega) (by omega)]
   unfold lE
   rw [List.getD_eq_getElem?_getD, List.getD_eq_getElem?_getD, List.getElem?_append_left (by omega)]
 · rw [List.getElem?_append_right (by rw [evL_length]; exact hi), evL_length]
   rcases Nat.lt_or_ge i ((E.length + 1) * 5) with h2 | h2
   · obtain ⟨f, rfl⟩ : ∃ f, i = E.length * 5 + f := ⟨i - E.length * 5, by omega⟩
     rw [show E.length * 5 + f - E.length * 5 = f by omega, evL_get _ _ _ _ (by omega) (by omega), Array.getElem?_toList]
     simp [lE]
   · rw [List.getElem?_eq_none (by rw [hs]; omega), List.getElem?_eq_none (by rw [evL_length]; omega)]
structure Rw where
 evs : Value
 E : List Ev
 nr : Nat
 hv : Nat → Value
 held : Nat → List Int
structure OM (w W : World) (L : List Ent) (r : Rw) : Prop where
 own : Own w W [] L
 evr : W.ownsRow w.heap.size 37 5 r.evs r.E.length (evL (lE r.E) r.E.length)
 hr : ∀ c, c < r.nr → HRow w.heap.size W (r.hv c) (r.held c)
 apE : ∀ q ∈ L, r.evs.ownBlock ≠ some q.1
 apH : ∀ c, c < r.nr → ∀ q ∈ L, (r.hv c).ownBlock ≠ some q.1
 apHH : ∀ c c', c < r.nr → c' < r.nr → c ≠ c' → ∀ g, (r.hv c).ownBlock = some g → (r.hv c').ownBlock ≠ some g
section
variable {w W W' : World} {L : List Ent} {r : Rw}
theorem OM.evs_lt (h : OM w W L r) {g : Nat} (hg : r.evs.ownBlock = some g) : g < W.heap.size := (h.evr.lt g hg).2
theorem OM.hv_lt (h : OM w W L r) {c g : Nat} (hc : c < r.nr) (hg : (r.hv c).ownBlock = some g) : g < W.heap.size := by
 obtain ⟨_, cur, hb⟩ := (h.hr c hc).own hg
 exact hb.lt
theorem ownsRow_keeps {base e size : Nat} {v : Value} {n : Nat} {xs : List Value} {S : List Nat} (h : W.ownsRow base e size v n xs) (k : Keeps W W' S) (hS : ∀ g, v.ownBlock = some g → g ∉ S) : W'.ownsRow base e size v n xs := by
 refine ⟨h.1, ?_⟩
 rcases h.2 with hn | ⟨g, cap, cur, rfl, hb, hgg, rest⟩
 · exact .inl hn
 · refine .inr ⟨g, cap, cur, rfl, hb, ?_, rest⟩
   rw [k.block g (Array.getElem?_eq_some_iff.1 hgg).1 (hS g rfl)]
   exact hgg
theorem OM.step (h : OM w W L r) {S : List Nat} {L' : List Ent} (O : Own w W' [] L') (k : Keeps W W' S) (hS : ∀ g ∈ S, ∃ q ∈ L, q.1 = g) (hL : ∀ q ∈ L', (∃ p ∈ L, p.1 = q.1) ∨ W.heap.size ≤ q.1) : OM w W' L' r := by
 refine ⟨O, ownsRow_keeps h.evr k fun g hg hm => ?_, fun c hc => (h.hr c hc).keeps k fun g hg hm => ?_, fun q hq e => ?_, fun c hc q hq e => ?_, h.apHH⟩
 · obtain ⟨q, hq, rfl⟩ := hS g hm
   exact h.apE q hq hg
 · obtain ⟨q, hq, rfl⟩ := hS g hm
   exact h.apH c hc q hq hg
 · rcases hL q hq with ⟨p, hp, hpq⟩ | hge
   · exact h.apE p hp (by rw [hpq]; exact e)
   · have := h.evs_lt e
     omega
 · rcases hL q hq with ⟨p, hp, hpq⟩ | hge
   · exact h.apH c hc p hp (by rw [hpq]; exact e)
   · have := h.hv_lt hc e
     omega
theorem OM.keeps (h : OM w W L r) (k : Keeps W W' []) : OM w W' L r := h.step (h.own.keeps k) k (by simp) fun q hq => .inl ⟨q, hq, rfl⟩
theorem OM.add (h : OM w W L r) {t : TypeId} {cs : Array Value} (k : Keeps W W' []) (b : Blk W' W.heap.size t cs) : OM w W' ((W.heap.size, t, cs) :: L) r :=
 h.step (h.own.add k b) k (by simp) fun q hq => by
   rcases List.mem_cons.1 hq with rfl | hq
   · exact .inr (Nat.le_refl _)
   · exact .inl ⟨q, hq, rfl⟩
theorem OM.get (h : OM w W L r) (k : Nat) {g t : Nat} {cs : Array Value} (hk : L[k]? = some (g, t, cs)) : Blk W g t cs := h.own.get k hk
theorem OM.set (h : OM w W L r) (k : Nat) {g t : Nat} {cs cs' : Array Value} (hk : L[k]? = some (g, t, cs)) (hw : Keeps W W' [g]) (b : Blk W' g t cs') : OM w W' (L.set k (g, t, cs')) r := by
 refine h.step (h.own.set k hk hw b) hw (fun x hx => ?_) fun q hq => ?_
 · obtain rfl : x = g := by simpa using hx
   exact ⟨_, List.mem_of_getElem? hk, rfl⟩
 · rcases List.mem_or_eq_of_mem_set hq with hq | rfl
   · exact .inl ⟨q, hq, rfl⟩
   · exact .inl ⟨_, List.mem_of_getElem? hk, rfl⟩
theorem OM.put (h : OM w W L r) (k : Nat) {g t : Nat} {cs cs' : Array Value} (hk : L[k]? = some (g, t, cs)) (e : cs = cs') : OM w W (L.set k (g, t, cs')) r := by
 subst e
 exact h.set k hk (Keeps.refl _ _) (h.get k hk)
theorem OM.drop_ (h : OM w W L r) (n : Nat) : OM w W (L.drop n) r := h.step (h.own.drop_ n) (Keeps.refl _ []) (by simp) fun q hq => .inl ⟨q, List.mem_of_mem_drop hq, rfl⟩
end
section
variable {P : Program} {ops : Array Oper} {rest : List Oper} {o : Oper} {a : Act} {w W : World} {Q : Exit → Act → World → Prop} {L : List Ent} {r : Rw} {T ty : TypeId} {g : Nat} {t : TypeId} {cs cs' : Array Value} {x y z : Operand}
theorem om_alloc (d : Nat) (cs : Array Value) (M : OM w W L r) (_hd : o.dst = some d) (hgd : o.guard = none) (ho : o.op = .alloc T) (hz : ∀ w, (zeroValue T).run P w = .ok (.agg cs) w)
   (h : ∀ u g, OM w u ((g, T, cs) :: L) r → wpList P ops Q rest (a.put o.dst (.pointer (some ⟨g, 0, none⟩))) u) : wpList P ops Q (o :: rest) a W :=
 wpList_alloc d cs _hd hgd ho hz fun u k b _ => h u _ (M.add k b)
theorem om_alloc1 (d : Nat) (v : Value) (M : OM w W L r) (_hd : o.dst = some d) (hgd : o.guard = none) (ho : o.op = .alloc T) (hz : ∀ w, (zeroValue T).run P w = .ok v w) (hv : v.cells = #[v])
   (h : ∀ u g, OM w u ((g, T, #[v]) :: L) r → wpList P ops Q rest (a.put o.dst (.pointer (some ⟨g, 0, none⟩))) u) : wpList P ops Q (o :: rest) a W := by
 refine wpList_plain hgd fun K hK => ?_
 have hr : (Instr.alloc T true (.tuple #[])).run P W = .ok (.pointer (some ⟨W.heap.size, 0, none⟩)) (W.alloc (.cells #[v] T)) := by
   simp [Instr.alloc, hz W, newVar, newRow, hv]
 unfold Oper.wp execOp
 simp only [ho, Sem.run_bind, hr, Result.andThen_ok, Sem.run_pure]
 exact hK _ _ (h _ _ (M.add ((Keeps.refl _ _).alloc _) (Blk.new _ _ _)))
theorem om_box (d : Nat) (cs : Array Value) (M : OM w W L r) (_hd : o.dst = some d) (hgd : o.guard = none) (ho : o.op = .box T x) (hx : a.eval x = .agg cs)
   (h : ∀ u g, OM w u ((g, T, cs) :: L) r → wpList P ops Q rest (a.put o.dst (.pointer (some ⟨g, 0, none⟩))) u) : wpList P ops Q (o :: rest) a W :=
 wpList_box d cs _hd hgd ho hx fun u k b _ => h u _ (M.add k b)
theorem om_box1 (d : Nat) (v : Value) (M : OM w W L r) (_hd : o.dst = some d) (hgd : o.guard = none) (ho : o.op = .box T x) (hx : a.eval x = v) (hv : v.cells = #[v])
   (h : ∀ u g, OM w u ((g, T, #[v]) :: L) r → wpList P ops Q rest (a.put o.dst (.pointer (some ⟨g, 0, none⟩))) u) : wpList P ops Q (o :: rest) a W := by
 refine wpList_plain hgd fun K hK => ?_
 have hr : (Instr.box T v).run P W = .ok (.pointer (some ⟨W.heap.size, 0, none⟩)) (W.alloc (.cells #[v] T)) := by
   simp [Instr.box, newVar, newRow, hv]
 unfold Oper.wp execOp
 simp only [ho, hx, Sem.run_bind, hr, Result.andThen_ok, Sem.run_pure]
 exact hK _ _ (h _ _ (M.add ((Keeps.refl _ _).alloc _) (Blk.new _ _ _)))
theorem om_load (d k : Nat) (M : OM w W L r) (_hd : o.dst = some d) (hgd : o.guard = none) (ho : o.op = .load ty x) (hx : a.eval x = .pointer (some ⟨g, 0, none⟩)) (hk : L[k]? = some (g, t, cs)) {e : TypeDesc}
   (hu : P.underlying ty = some e) (he : (match e with | .struct _ | .array _ _ => true | _ => false) = true) (hi : (P.info? ty).map (·.size) = some cs.size)
   (h : wpList P ops Q rest (a.put o.dst (.agg cs)) W) : wpList P ops Q (o :: rest) a W := own_load d k M.own _hd hgd ho hx hk hu he hi h
theorem om_store_row (k : Nat) (y z : Operand) (M : OM w W L r) (hgd : o.guard = none) (hdst : o.dst = none) (ho : o.op = .store ty y z) (hy : a.eval y = .pointer (some ⟨g, 0, none⟩)) (hz : a.eval z = .agg cs') (hk : L[k]? = some (g, t, cs))
   (hi : (P.info? ty).map (·.size) = some cs'.size) (hs : cs.size = cs'.size) (h1 : ∀ v ∈ cs'.toList, v.oneCell' = true)
   (h : ∀ u, OM w u (L.set k (g, t, cs')) r → wpList P ops Q rest a u) : wpList P ops Q (o :: rest) a W :=
 wpList_store_row y z hgd hdst ho hy hz (M.get k hk) hi hs h1 fun u kp b => h u (M.set k hk kp b)
theorem om_store (k i : Nat) (v : Value) (y z : Operand) (M : OM w W L r) (hgd : o.guard = none) (hdst : o.dst = none) (ho : o.op = .store ty y z) (hy : a.eval y = .pointer (some ⟨g, i, none⟩)) (hz : a.eval z = v) (hk : L[k]? = some (g, t, cs))
   (hi : i < cs.size) (hx : v.cells = #[v]) (h1 : v.oneCell' = true) (hs : (P.info? ty).map (·.size) = some 1) (he : cs.setIfInBounds i v = cs')
   (h : ∀ u, OM w u (L.set k (g, t, cs')) r → wpList P ops Q rest a u) : wpList P ops Q (o :: rest) a W :=
 wpList_store_blk g i t cs v hgd hdst ho hy hz (M.get k hk) hi hx h1 hs fun u kp b => h u (M.set k hk kp (by rw [← he]; exact b))
end
theorem grown_keeps {w w' : World} {v : Value} (g : w.grownBy w' v.ownBlock) : Keeps w w' (v.ownBlock.toList) := ⟨g.os, g.tape, g.output, g.size, fun b hb' hn => g.block b hb' (by intro e; exact hn (by rw [← e]; simp))⟩
section
variable {w W W' : World} {L : List Ent} {r : Rw}
theorem OM.own_grown (M : OM w W L r) {v : Value} (g : W.grownBy W' v.ownBlock) (hb : ∀ b, v.ownBlock = some b → w.heap.size ≤ b) (hap : ∀ q ∈ L, v.ownBlock ≠ some q.1) : Own w W' [] L := by
 have k := grown_keeps g
 refine ⟨M.own.keep.trans k fun b hb' hlt => ?_, fun q hq => (M.own.blk q hq).keeps k fun hm => ?_, M.own.new, M.own.nd⟩
 · have := hb b (by simpa using hb')
   omega
 · exact hap q hq (by simpa using hm)
theorem OM.tell (M : OM w W L r) {v' : Value} {e : Ev} (g : W.grownBy W' r.evs.ownBlock) (h : W'.ownsRow w.heap.size 37 5 v' (r.E.length + 1) (evL (lE r.E) r.E.length ++ (evC e).toList)) (hf : v'.ownBlock = r.evs.ownBlock ∨ v'.ownBlock = some W.heap.size) : OM w W' L { r with evs := v', E := r.E ++ [e] } := by
 have O := M.own_grown g (fun b hb => (M.evr.lt b hb).1) M.apE
 refine ⟨O, ?_, fun c hc => (M.hr c hc).keeps (grown_keeps g) fun b hb hm => ?_, fun q hq he => ?_, M.apH, M.apHH⟩
 · rw [evL_snoc] at h
   simpa using h
 · have hm' : r.evs.ownBlock = some b := by simpa using hm
   obtain ⟨_, cur, h1⟩ := (M.hr c hc).own hb
   rcases M.evr.2 with ⟨e0, _⟩ | ⟨g', cap, cur', e0, _, h2, _⟩
   · rw [e0] at hm'; cases hm'
   · rw [e0] at hm'
     simp [Value.ownBlock] at hm'
     subst hm'
     rw [Blk, h2] at h1
     cases h1
 · rcases hf with hf | hf
   · exact M.apE q hq (by rw [← hf]; exact he)
   · have h1 : some W.heap.size = some q.1 := by rw [← hf]; exact he
     have h2 := (M.own.blk q hq).lt
     simp only [Option.some.injEq] at h1
     omega
theorem updN_same {α : Type} (f : Nat → α) (i : Nat) (x : α) : updN f i x i = x := by simp [updN]
theorem updN_other {α : Type} (f : Nat → α) (i j : Nat) (x : α) (h : j ≠ i) : updN f i x j = f j := by simp [updN, h]
theorem OM.push (M : OM w W L r) {c : Nat} {v' : Value} {l : List Int} (hc : c < r.nr) (g : W.grownBy W' (r.hv c).ownBlock) (h : HRow w.heap.size W' v' l) (hf : v'.ownBlock = (r.hv c).ownBlock ∨ v'.ownBlock = some W.heap.size) : OM w W' L { r with hv := updN r.hv c v', held := updN r.held c l } := by
 have O := M.own_grown g (fun b hb => ((M.hr c hc).own hb).1) (M.apH c hc)
 have new : ∀ c', c' < r.nr → c' ≠ c → ∀ b, v'.ownBlock = some b → (r.hv c').ownBlock ≠ some b := fun c' hc' hne b hb he => by
   rcases hf with hf | hf
   · exact M.apHH c c' hc hc' (fun e => hne e.symm) b (by rw [← hf]; exact hb) he
   · have h1 : some W.heap.size = some b := by rw [← hf]; exact hb
     have h2 := M.hv_lt hc' he
     simp only [Option.some.injEq] at h1
     omega
 refine ⟨O, ownsRow_keeps M.evr (grown_keeps g) fun b hb hm => ?_, fun c' hc' => ?_, M.apE, fun c' hc' q hq he => ?_, fun c1 c2 h1 h2 hne b hb he => ?_⟩
 · have hm' : (r.hv c).ownBlock = some b := by simpa using hm
   obtain ⟨_, cur, h1⟩ := (M.hr c hc).own hm'
   rcases M.evr.2 with ⟨e0, _⟩ | ⟨g', cap, cur', e0, _, h2, _⟩
   · rw [e0] at hb; cases hb
   · rw [e0] at hb
     simp [Value.ownBlock] at hb
     subst hb
     rw [Blk, h2] at h1
     cases h1
 · show HRow w.heap.size W' (updN r.hv c v' c') (updN r.held c l c')
   by_cases e : c' = c
   · subst e
     rw [updN_same, updN_same]
     exact h
   · rw [updN_other _ _ _ _ e, updN_other _ _ _ _ e]
     exact (M.hr c' hc').keeps (grown_keeps g) fun b hb hm => M.apHH c' c hc' hc e b hb (by simpa using hm)
 · have he' : (updN r.hv c v' c').ownBlock = some q.1 := he
   by_cases e : c' = c
   · subst e
     rw [updN_same] at he'
     rcases hf with hf | hf
     · exact M.apH c' hc q hq (by rw [← hf]; exact he')
     · have h1 : some W.heap.size = some q.1 := by rw [← hf]; exact he'
       have h2 := (M.own.blk q hq).lt
       simp only [Option.some.injEq] at h1
       omega
   · rw [updN_other _ _ _ _ e] at he'
     exact M.apH c' hc' q hq he'
 · have hb' : (updN r.hv c v' c1).ownBlock = some b := hb
   have he' : (updN r.hv c v' c2).ownBlock = some b := he
   by_cases e1 : c1 = c
   · subst e1
     rw [updN_same] at hb'
     rw [updN_other _ _ _ _ (fun e => hne e.symm)] at he'
     exact new c2 h2 (fun e => hne e.symm) b hb' he'
   · rw [updN_other _ _ _ _ e1] at hb'
     by_cases e2 : c2 = c
     · subst e2
       rw [updN_same] at he'
       exact new c1 h1 e1 b he' hb'
     · rw [updN_other _ _ _ _ e2] at he'
       exact M.apHH c1 c2 h1 h2 hne b hb' he'
theorem OM.pop (M : OM w W L r) {c : Nat} {v' : Value} {l : List Int} (hc : c < r.nr) (h : HRow w.heap.size W v' l) (hf : v'.ownBlock = (r.hv c).ownBlock) : OM w W L { r with hv := updN r.hv c v', held := updN r.held c l } :=
 M.push hc ⟨rfl, rfl, rfl, Nat.le_refl _, fun _ _ _ => rfl⟩ h (.inl hf)
theorem OM.regrow (M : OM w W L r) (k : Nat) {b b' t : Nat} {cs cs' : Array Value} (hk : L[k]? = some (b, t, cs)) (hb : w.heap.size ≤ b) (g : W.grownBy W' (some b)) (hB : Blk W' b' t cs') (hf : b' = b ∨ b' = W.heap.size) : OM w W' (L.set k (b', t, cs')) r := by
 have kp : Keeps W W' [b] := ⟨g.os, g.tape, g.output, g.size, fun x hx hn => g.block x hx (by intro e; exact hn (by simpa using e))⟩
 rcases hf with rfl | rfl
 · exact M.set k hk kp hB
 · have hlt : k < L.length := (List.getElem?_eq_some_iff.1 hk).1
   have k0 : Keeps w W' [] := M.own.keep.trans kp fun x hx hlt' => by
     obtain rfl : x = b := by simpa using hx
     omega
   have far : ∀ (i : Nat) (q : Ent), L[i]? = some q → i ≠ k → q.1 ≠ b := fun i q hi hne => M.own.apart hi hk hne
   have cases_ : ∀ q ∈ L.set k (W.heap.size, t, cs'), q = (W.heap.size, t, cs') ∨ (q ∈ L ∧ q.1 ≠ b) := fun q hq => by
     obtain ⟨i, hi⟩ := List.getElem?_of_mem hq
     rw [List.getElem?_set] at hi
     by_cases hki : k = i
     · subst hki
       rw [if_pos rfl, if_pos hlt] at hi
       cases hi
       exact .inl rfl
     · rw [if_neg hki] at hi
       exact .inr ⟨List.mem_of_getElem? hi, far i q hi (fun e => hki e.symm)⟩
   refine M.step (S := [b]) ⟨k0, fun q hq => ?_, fun q hq hlt' => ?_, ?_⟩ kp (fun x hx => ?_) fun q hq => ?_
   · rcases cases_ q hq with rfl | ⟨hq, hne⟩
     · exact hB
     · exact (M.own.blk q hq).keeps kp (by simpa using hne)
   · rcases cases_ q hq with rfl | ⟨hq, hne⟩
     · have := M.own.keep.size
       simp only at hlt'
       omega
     · exact M.own.new q hq hlt'
   · rw [List.nodup_iff_pairwise_ne, List.pairwise_iff_getElem]
     intro i j hi hj hij
     have hi' : i < L.length := by simpa using hi
     have hj' : j < L.length := by simpa using hj
     have lt : ∀ x (hx : x < L.length), L[x].1 < W.heap.size := fun x hx => (M.own.blk _ (List.getElem_mem hx)).lt
     have nd := List.pairwise_iff_getElem.1 M.own.nd i j (by simpa using hi') (by simpa using hj') hij
     simp only [List.getElem_map] at nd
     simp only [List.getElem_map, List.getElem_set]
     have l1 := lt i hi'
     have l2 := lt j hj'
     by_cases e1 : k = i
     · rw [if_pos e1, if_neg (by omega)]
       simp only
       omega
     · rw [if_neg e1]
       by_cases e2 : k = j
       · rw [if_pos e2]
         simp only
         omega
       · rw [if_neg e2]
         exact nd
   · obtain rfl : x = b := by simpa using hx
     exact ⟨_, List.mem_of_getElem? hk, rfl⟩
   · rcases cases_ q hq with rfl | ⟨hq, _⟩
     · exact .inr (Nat.le_refl _)
     · exact .inl ⟨q, hq, rfl⟩
end
open Go.RowKit
def stL (l : List Ev) : St := l.foldl nextE st0
theorem stL_snoc (l : List Ev) (e : Ev) : stL (l ++ [e]) = nextE (stL l) e := by simp [stL]
theorem stN_take (l : List Ev) : ∀ k, k ≤ l.length → stN (lE l) k = stL (l.take k)
 | 0, _ => rfl
 | k + 1, h => by
   have hk : k < l.length := by omega
   rw [List.take_succ_eq_append_getElem hk, stL_snoc, ← stN_take l k (by omega)]
   simp only [stN, lE]
   rw [List.getD_eq_getElem?_getD, List.getElem?_eq_getElem hk]
   rfl
def Tied (st : St) (P : PW) : Prop := st.r = P.n ∧ (∀ a, st.held a = P.lk a) ∧ (∀ c : Nat, st.shut c = P.cl c) ∧ ∀ c : Nat, st.sent c - st.took c = (P.held c).length
def TStep (S : Sys) (st : St) (P : PW) (x : PW × Int) : Prop := ∃ e, x.1.ev = P.ev ++ [e] ∧ okE S st e = true ∧ (x.2 = 0 → Tied (nextE st e) x.1)
theorem tstep_ite {S : Sys} {st : St} {P : PW} {c : Prop} [Decidable c] {x y : PW × Int} (h1 : c → TStep S st P x) (h2 : ¬ c → TStep S st P y) : TStep S st P (if c then x else y) := by
 by_cases h : c
 · rw [if_pos h]; exact h1 h
 · rw [if_neg h]; exact h2 h
theorem right_op {S : Sys} {p : Nat} {f : Nat → Int} (h : rightS S p f = true) : 1 ≤ f 0 ∧ f 0 ≤ 16 := by
 unfold rightS at h
 simp only [Bool.and_eq_true] at h
 simpa [opOk] using h.1
theorem right_cells {S : Sys} {p : Nat} {f : Nat → Int} (h : rightS S p f = true) (ho : f 0 = 12 ∨ f 0 = 13) : S.ce ≠ 0 := by
 unfold rightS at h
 rcases ho with ho | ho <;> rw [ho] at h <;> simp at h <;> exact h.2.1
theorem okE_mk {S : Sys} {st : St} {P : PW} {k : Nat} {o a v : Int} {sh : Bool} (hR : Tied st P) (hk : k < P.n) (h1 : 1 ≤ o) (h2 : o ≤ 16) (hc : cnt S o < 0 ∨ (0 ≤ a ∧ a < cnt S o)) (hb : bodyE st ⟨k, o, a, v, sh⟩ = true) : okE S st ⟨k, o, a, v, sh⟩ = true := by
 have h := hR.1
 unfold okE headE
 rw [hb, Bool.and_true]
 simp only [Bool.and_eq_true, Bool.or_eq_true, decide_eq_true_eq]
 exact ⟨by omega, by omega, h1, h2, hc⟩
theorem stepP_trace (S : Sys) (st : St) (P : PW) (k : Nat) (f : Nat → Int) (hR : Tied st P) (hk : k < P.n) (hce : 0 ≤ S.ce) (hr : rightS S (P.rs k).prog f = true) (hc : canP S P f = true) : TStep S st P (stepP S P k f) := by
 obtain ⟨o1, o2⟩ := right_op hr
 have R1 := hR.1
 have R2 := hR.2.1
 have R3 := hR.2.2.1
 have R4 := hR.2.2.2
 unfold stepP
 simp only []
 refine tstep_ite (fun o => ?_) (fun n1 => ?_)
 · exact ⟨_, rfl, okE_mk hR hk (by omega) (by omega) (.inl (by simp [cnt])) (by simp [bodyE]), fun _ => ⟨R1, R2, R3, R4⟩⟩
 refine tstep_ite (fun o => ?_) (fun n2 => ?_)
 · exact ⟨_, rfl, okE_mk hR hk (by omega) (by omega) (.inl (by simp [cnt])) (by simp [bodyE]), fun _ => ⟨R1, R2, R3, R4⟩⟩
 refine tstep_ite (fun o => ?_) (fun n3 => ?_)
 · exact ⟨_, rfl, okE_mk hR hk (by omega) (by omega) (.inl (by simp [cnt])) (by simp [bodyE]), fun _ => ⟨R1, R2, R3, R4⟩⟩
 refine tstep_ite (fun o => ?_) (fun n4 => ?_)
 · exact ⟨_, rfl, okE_mk hR hk (by omega) (by omega) (.inl (by simp [cnt])) (by simp [bodyE]), fun _ => ⟨R1, R2, R3, R4⟩⟩
 refine tstep_ite (fun o => ?_) (fun n16 => ?_)
 · exact ⟨_, rfl, okE_mk hR hk (by omega) (by omega) (.inl (by simp [cnt])) (by simp [bodyE]), fun _ => ⟨R1, R2, R3, R4⟩⟩
 refine tstep_ite (fun o => ?_) (fun n12 => ?_)
 · have := right_cells hr (.inl o)
   exact ⟨_, rfl, okE_mk hR hk (by omega) (by omega) (.inr ⟨Int.emod_nonneg _ this, by show _ < S.ce; exact Int.emod_lt_of_pos _ (by omega)⟩) (by simp [bodyE]), fun _ => ⟨R1, R2, R3, R4⟩⟩
 refine tstep_ite (fun o => ?_) (fun n13 => ?_)
 · have := right_cells hr (.inr o)
   exact ⟨_, rfl, okE_mk hR hk (by omega) (by omega) (.inr ⟨Int.emod_nonneg _ this, by show _ < S.ce; exact Int.emod_lt_of_pos _ (by omega)⟩) (by simp [bodyE]), fun _ => ⟨R1, R2, R3, R4⟩⟩
 refine tstep_ite (fun o => ?_) (fun n14 => ?_)
 · have hs := right_start hr o
   refine tstep_ite (fun hn => ?_) (fun hn => ?_)
   · exact ⟨_, rfl, okE_mk hR hk (by omega) (by omega) (.inr ⟨hs.1, hs.2⟩) (by simp [bodyE]), fun h => by simp at h⟩
   · refine ⟨_, rfl, okE_mk hR hk (by omega) (by omega) (.inr ⟨hs.1, hs.2⟩) ?_, fun _ => ?_⟩
     · simp only [bodyE, if_true, Bool.or_eq_true, decide_eq_true_eq, Bool.and_eq_true]
       right; omega
     · have h0 : ¬ (P.n : Int) = 0 := by omega
       simp only [nextE, if_true, if_neg h0]
       refine ⟨?_, R2, R3, R4⟩
       show st.r + 1 = ((P.n + 1 : Nat) : Int)
       omega
 refine tstep_ite (fun o => ?_) (fun n15 => ?_)
 · exact ⟨_, rfl, okE_mk hR hk (by omega) (by omega) (.inl (by simp [cnt])) (by simp [bodyE]), fun _ => ⟨R1, R2, R3, R4⟩⟩
 refine tstep_ite (fun o => ?_) (fun n5 => ?_)
 · obtain ⟨a1, a2⟩ := right_room hr (.inl o)
   refine tstep_ite (fun hcl => ?_) (fun hcl => ?_)
   · exact ⟨_, rfl, okE_mk hR hk (by omega) (by omega) (.inr ⟨a1, a2⟩) (by simp [bodyE]), fun h => by simp at h⟩
   · refine ⟨_, rfl, okE_mk hR hk (by omega) (by omega) (.inr ⟨a1, a2⟩) (by simp [bodyE]), fun _ => ⟨R1, R2, R3, fun c => ?_⟩⟩
     show updI st.sent (f 1) (st.sent (f 1) + 1) c - st.took c = (updN P.held (f 1).toNat (P.held (f 1).toNat ++ [_]) c).length
     have h4 := R4 c
     by_cases e : c = (f 1).toNat
     · have e1 : f 1 = (c : Int) := by omega
       rw [← e, e1, updI_same, updN_same]
       simp; omega
     · rw [updI_other _ _ _ _ (by omega), updN_other _ _ _ _ e, h4]
 refine tstep_ite (fun o => ?_) (fun n6 => ?_)
 · obtain ⟨a1, a2⟩ := right_room hr (.inr (.inl o))
   have h4 := R4 (f 1).toNat
   rw [show (((f 1).toNat : Nat) : Int) = f 1 by omega] at h4
   cases hh : P.held (f 1).toNat with
   | nil =>
     refine ⟨_, rfl, okE_mk hR hk (by omega) (by omega) (.inr ⟨a1, a2⟩) ?_, fun _ => ⟨R1, R2, R3, R4⟩⟩
     have h3 := R3 (f 1).toNat
     rw [show (((f 1).toNat : Nat) : Int) = f 1 by omega] at h3
     have hcl : P.cl (f 1).toNat = true := by
       simp [canP, o, hh] at hc
       exact hc
     simp [bodyE, h3, hcl]
   | cons x l =>
     rw [hh] at h4
     simp only [List.length_cons] at h4
     refine ⟨_, rfl, okE_mk hR hk (by omega) (by omega) (.inr ⟨a1, a2⟩) ?_, fun _ => ⟨R1, R2, R3, fun c => ?_⟩⟩
     · simp [bodyE]; omega
     · show st.sent c - updI st.took (f 1) (st.took (f 1) + 1) c = (updN P.held (f 1).toNat l c).length
       by_cases e : c = (f 1).toNat
       · have e1 : f 1 = (c : Int) := by omega
         rw [← e, e1, updI_same, updN_same]
         rw [e1] at h4
         omega
       · rw [updI_other _ _ _ _ (by omega), updN_other _ _ _ _ e, R4 c]
 refine tstep_ite (fun o => ?_) (fun n7 => ?_)
 · obtain ⟨a1, a2⟩ := right_room hr (.inr (.inr o))
   refine tstep_ite (fun hcl => ?_) (fun hcl => ?_)
   · exact ⟨_, rfl, okE_mk hR hk (by omega) (by omega) (.inr ⟨a1, a2⟩) (by simp [bodyE]), fun h => by simp at h⟩
   · refine ⟨_, rfl, okE_mk hR hk (by omega) (by omega) (.inr ⟨a1, a2⟩) (by simp [bodyE]), fun _ => ⟨R1, R2, fun c => ?_, R4⟩⟩
     show updI st.shut (f 1) true c = updN P.cl (f 1).toNat true c
     by_cases e : c = (f 1).toNat
     · have e1 : f 1 = (c : Int) := by omega
       rw [← e, e1, updI_same, updN_same]
     · rw [updI_other _ _ _ _ (by omega), updN_other _ _ _ _ e, R3 c]
 refine tstep_ite (fun o => ?_) (fun n8 => ?_)
 · obtain ⟨a1, a2⟩ := right_lock hr (.inl o)
   have hl : P.lk (f 1) = false := by simpa [canP, o] using hc
   refine ⟨_, rfl, okE_mk hR hk (by omega) (by omega) (.inr ⟨a1, a2⟩) (by simp [bodyE, R2, hl]), fun _ => ⟨R1, fun a => ?_, R3, R4⟩⟩
   show updI st.held (f 1) true a = updI P.lk (f 1) true a
   unfold updI
   rw [R2 a]
 refine tstep_ite (fun o => ?_) (fun n9 => ?_)
 · obtain ⟨a1, a2⟩ := right_lock hr (.inr o)
   refine tstep_ite (fun hl => ?_) (fun hl => ?_)
   · refine ⟨_, rfl, okE_mk hR hk (by omega) (by omega) (.inr ⟨a1, a2⟩) (by simp [bodyE]), fun _ => ⟨R1, fun a => ?_, R3, R4⟩⟩
     show updI st.held (f 1) false a = updI P.lk (f 1) false a
     unfold updI
     rw [R2 a]
   · exact ⟨_, rfl, okE_mk hR hk (by omega) (by omega) (.inr ⟨a1, a2⟩) (by simp [bodyE]), fun h => by simp at h⟩
 refine tstep_ite (fun o => ?_) (fun n10 => ?_)
 · obtain ⟨a1, a2⟩ := right_group hr (.inl o)
   refine tstep_ite (fun hl => ?_) (fun hl => ?_)
   · exact ⟨_, rfl, okE_mk hR hk (by omega) (by omega) (.inr ⟨a1, a2⟩) (by simp [bodyE]), fun h => by simp at h⟩
   · exact ⟨_, rfl, okE_mk hR hk (by omega) (by omega) (.inr ⟨a1, a2⟩) (by simp [bodyE]), fun _ => ⟨R1, R2, R3, R4⟩⟩
 · have o : f 0 = 11 := by omega
   obtain ⟨a1, a2⟩ := right_group hr (.inr o)
   rw [o]
   exact ⟨_, rfl, okE_mk hR hk (by omega) (by omega) (.inr ⟨a1, a2⟩) (by simp [bodyE]), fun _ => ⟨R1, R2, R3, R4⟩⟩
def FStep (P : PW) (x : PW × Int) : Prop := x.2 ≠ 0 → ∃ e, x.1.ev = P.ev ++ [e] ∧ x.1.n = P.n ∧ ∀ st, (nextE st e).r = st.r
theorem fstep_ite {P : PW} {c : Prop} [Decidable c] {x y : PW × Int} (h1 : FStep P x) (h2 : FStep P y) : FStep P (if c then x else y) := by split <;> assumption
theorem fstep_fin {P Q : PW} {k : Nat} {r : Rn} {on : Nat} {e : Ev} : FStep P (finP Q k r on e) := fun h => absurd rfl h
theorem stepP_faultn (S : Sys) (P : PW) (k : Nat) (f : Nat → Int) (h : (stepP S P k f).2 ≠ 0) : ∃ e, (stepP S P k f).1.ev = P.ev ++ [e] ∧ (stepP S P k f).1.n = P.n ∧ ∀ st, (nextE st e).r = st.r := by
 have key : FStep P (stepP S P k f) := by
   unfold stepP
   simp only []
   repeat' (refine fstep_ite ?_ ?_)
   all_goals first
     | exact fstep_fin
     | exact fun _ => ⟨_, rfl, rfl, fun st => by simp [nextE]⟩
     | (cases P.held (f 1).toNat <;> exact fstep_fin)
 exact key h
def TOk (S : Sys) (l : List Ev) : Prop := ∀ i e, l[i]? = some e → okE S (stL (l.take i)) e = true
theorem TOk.snoc {S : Sys} {l : List Ev} {e : Ev} (h : TOk S l) (he : okE S (stL l) e = true) : TOk S (l ++ [e]) := by
 intro i x hx
 rcases Nat.lt_or_ge i l.length with hi | hi
 · rw [List.getElem?_append_left hi] at hx
   rw [List.take_append_of_le_length (by omega)]
   exact h i x hx
 · rw [List.getElem?_append_right hi] at hx
   have : i = l.length := by
     rcases Nat.lt_or_ge (i - l.length) 1 with h1 | h1
     · omega
     · rw [List.getElem?_eq_none (by simpa using h1)] at hx; cases hx
   subst this
   simp at hx
   subst hx
   simpa using he
theorem runP_trace (S : Sys) (hv : validB S = true) (picks : List Int) : ∀ fuel t P, P.ev.length = t → t ≤ 40000 → RInv S P → TOk S P.ev → Tied (stL P.ev) P →
   TOk S (runP S picks fuel t P).P.ev ∧ (runP S picks fuel t P).P.ev.length ≤ 40000 ∧ ((runP S picks fuel t P).fault ≠ 0 ∨ Tied (stL (runP S picks fuel t P).P.ev) (runP S picks fuel t P).P) ∧ (stL (runP S picks fuel t P).P.ev).r = (runP S picks fuel t P).P.n
 | 0, t, P, ht, h1, hr, hk, hs => ⟨hk, by show P.ev.length ≤ 40000; omega, .inr hs, hs.1⟩
 | fuel + 1, t, P, ht, h1, hr, hk, hs => by
   have hce : 0 ≤ S.ce := by
     have := ((headB_iff S).1 ((validB_iff S).1 hv).1).2.2.2.2.2
     simp [shB] at this
     omega
   have hend : TOk S P.ev ∧ P.ev.length ≤ 40000 ∧ ((0 : Int) ≠ 0 ∨ Tied (stL P.ev) P) ∧ (stL P.ev).r = P.n := ⟨hk, by omega, .inr hs, hs.1⟩
   unfold runP
   by_cases c1 : endedN S P P.n = true
   · simp only [c1, if_true]; exact hend
   by_cases c2 : 40000 ≤ t
   · simp only [c1, c2, if_true, if_false, Bool.false_eq_true]; exact hend
   by_cases c3 : readyN S P P.n = []
   · simp only [c1, c2, c3, if_true, if_false, Bool.false_eq_true]; exact hend
   simp only [c1, c2, c3, if_false, Bool.false_eq_true]
   obtain ⟨q1, f, q2, q3⟩ := picked S P picks t c3
   generalize (readyN S P P.n).getD (pickP picks t (readyN S P P.n).length) 0 = k at *
   simp only [q2]
   have hrt := right_of hv (hr k q1) q2
   obtain ⟨e, e1, e2, e3⟩ := stepP_trace S (stL P.ev) P k f hs q1 hce hrt q3
   have hk2 : TOk S (stepP S P k f).1.ev := by rw [e1]; exact hk.snoc e2
   split
   · rename_i hz
     exact runP_trace S hv picks fuel (t + 1) _ (by rw [e1]; simp [ht]) (by omega) (stepP_rinv S P k f hr q1 hrt) hk2 (by rw [e1, stL_snoc]; exact e3 hz)
   · rename_i hz
     refine ⟨hk2, by show (stepP S P k f).1.ev.length ≤ 40000; rw [e1]; simp; omega, .inl hz, ?_⟩
     show (stL (stepP S P k f).1.ev).r = (stepP S P k f).1.n
     obtain ⟨e', e1', e4⟩ := stepP_faultn S P k f hz
     rw [e1'] at e1
     have : e' = e := by simpa using e1
     subst this
     rw [e1', stL_snoc, e4.2 (stL P.ev), hs.1, e4.1]
open Go.RowKit Go.Maps Go.Deep
def insB (n : Nat) (i : Int) : Bool := decide (0 ≤ i) && decide (i < n)
def askedR (S : Sys) (E : Nat → Ev) (n : Nat) (xs : List Int) : Int × Int := if (thr S E n).2.2 = 0 then (if xs.all (insB n) then ((thr S E n).1, 0) else (0, 1)) else (0, (thr S E n).2.2)
def askV (r : Int × Int) : Value := .tuple #[.int .i64 r.1, .int .i64 r.2]
section
variable {w : World} {S : Sys} {A : Option Addr} {c : Nat} {R : Option Addr} {d n : Nat} {E : Nat → Ev} {B : Option Addr} {cb : Nat}
set_option maxRecDepth 100000 in
theorem asked_any (hS : SysIn w S A c R d) (hE : EvsAt w B n E) (hwf : ∀ i, i < n → (Lit.int .i64 (E i).a).wf = true) (v : Value) (xs : List Int) (hx : IntL w v xs) (hl : xs.length ≤ 10) : Calls Try.prog 62 #[.agg (sysV S A c R d), .slice B n cb, v] w fun e w' => e = .returned (askV (askedR S E n xs)) ∧ Keeps w w' [] := by
 have O := Own.start w []
 obtain ⟨A', c', rfl, hx⟩ := hx
 have HT : ∀ u, Keeps w u [] → Hid (Calls Try.prog 60 #[.agg (sysV S A c R d), .slice B n cb] u fun e w' => e = .returned (.tuple #[.int .i64 (thr S E n).1, .int .i64 (thr S E n).2.1, .int .i64 (thr S E n).2.2]) ∧ Keeps u w' []) := fun u k => Lib.hid (through_any (hS.kept k) (hE.kept k) hwf)
 have HX := Lib.hid hx
 clear hx hS hE hwf
 generalize hm : xs.length = m at *
 by_cases h : (thr S E n).2.2 = 0
 · have HA := Lib.hid (show askedR S E n xs = if xs.all (insB n) then ((thr S E n).1, 0) else (0, 1) by simp [askedR, h])
   generalize askedR S E n xs = r at HA ⊢
   generalize thr S E n = x at *
   obtain ⟨x0, x1, x2⟩ := x
   simp only at *
   subst h
   have HMl := Lib.hid hm
   clear hm
   go_enter Try.func62, Try.ntmps62
   go_wp2_with (first
     | go_big_skip
     | (refine own_box 3 (sysV S A c R d) O rfl rfl rfl rfl ?_; clear O; intro W a3 O; simp only [Act.put, kA, kZ, kS])
     | (refine own_load 14 0 O rfl rfl rfl rfl rfl Try.underlying27 rfl (by kernel_rfl) ?_; simp only [Act.put, kA, kZ, kS])
     | (go_at_call 60; refine ((HT _ O.keep).out).mono ?_; rintro e W ⟨rfl, K⟩; replace O := O.keeps K; clear K))
   go_loopw [25] (fun i wr => ∃ k : Nat, k ≤ m ∧ i = .int .i64 k ∧ Keeps w wr [] ∧ ∀ j, j < k → insB n (xs.getD j 0) = true) (fun i _ => m - (intOf i).toNat)
   case atStart => exact ⟨0, by omega, rfl, O.keep, fun j hj => by omega⟩
   case round =>
     obtain ⟨k, hk, rfl, K, hmk⟩ := hrel
     have HK := Lib.hid hmk
     clear hmk O
     by_cases hlt : k < m
     · have g1 : ((k : Int)) < m := by omega
       have g0 : (0 : Int) ≤ k := by omega
       obtain ⟨ad, rfl, hb, hc⟩ := HX.out (by omega)
       have c1 : wr.cell? (ad.add k) = some (.int .i64 (xs.getD k 0)) := (K.cellAt (by rw [add_block]; exact hb) (by simp)).trans (hc k hlt)
       clear hc hb
       have HNo := Lib.hid (show insB n (xs.getD k 0) = false → r = (0, 1) from fun hb => by
         rw [HA.out, if_neg]
         intro hall
         have hmem : xs.getD k 0 ∈ xs := by
           have : k < xs.length := by have := HMl.out; omega
           simp [this]
         rw [List.all_eq_true.1 hall _ hmem] at hb
         cases hb)
       have HYes := Lib.hid (show insB n (xs.getD k 0) = true → ∀ j, j < k + 1 → insB n (xs.getD j 0) = true from fun hb j hj => if h : j = k then (by rw [h]; exact hb) else HK.out j (by omega))
       generalize xs.getD k 0 = y at c1 HNo HYes
       by_cases h0 : y < 0
       · have HF := Lib.hid (HNo.out (by simp [insB]; omega))
         go_wp2_with (first | go_big_skip)
         go_returns
         exact ⟨by rw [HF.out]; rfl, K⟩
       · by_cases h1 : (n : Int) ≤ y
         · have HF := Lib.hid (HNo.out (by simp [insB]; omega))
           go_wp2_with (first | go_big_skip)
           go_returns
           exact ⟨by rw [HF.out]; rfl, K⟩
         · have HG := Lib.hid (HYes.out (by simp [insB]; omega))
           go_wp2_with (first | go_big_skip)
           clear c1
           go_roundw
           case rel => exact ⟨k + 1, by omega, by go_num, K, HG.out⟩
           case measure => (simp [intOf] <;> omega)
     · obtain rfl : k = m := by omega
       have HF := Lib.hid (show r = (x0, 0) by
         rw [HA.out, if_pos]
         rw [List.all_eq_true]
         intro y hy
         obtain ⟨j, hj, rfl⟩ := List.getElem_of_mem hy
         have := HK.out j (by have := HMl.out; omega)
         simpa [hj] using this)
       go_wp2
       go_returns
       exact ⟨by rw [HF.out]; rfl, K⟩
 · have HF := Lib.hid (show askedR S E n xs = (0, (thr S E n).2.2) by simp [askedR, h])
   generalize askedR S E n xs = r at HF ⊢
   generalize thr S E n = x at *
   obtain ⟨x0, x1, x2⟩ := x
   simp only at *
   go_enter Try.func62, Try.ntmps62
   go_wp2_with (first
     | go_big_skip
     | (refine own_box 3 (sysV S A c R d) O rfl rfl rfl rfl ?_; clear O; intro W a3 O; simp only [Act.put, kA, kZ, kS])
     | (refine own_load 14 0 O rfl rfl rfl rfl rfl Try.underlying27 rfl (by kernel_rfl) ?_; simp only [Act.put, kA, kZ, kS])
     | (go_at_call 60; refine ((HT _ O.keep).out).mono ?_; rintro e W ⟨rfl, K⟩; replace O := O.keeps K; clear K))
   go_returns
   exact ⟨by rw [HF.out]; rfl, O.keep⟩
end
open Go.RowKit Go.Maps Go.Deep
theorem Blk.ne {W : World} {g g' t t' : Nat} {cs cs' : Array Value} (h : Blk W g t cs) (h' : Blk W g' t' cs') (ht : t ≠ t') : g ≠ g' := by
 rintro rfl
 rw [Blk, h] at h'
 injection h' with h'
 injection h' with _ h' _
 exact ht h'
section
variable {base : Nat} {W : World} {v : Value} {xs : List Int}
theorem Mint.off (h : Mint base W v xs) {g t : Nat} {cs : Array Value} (hB : Blk W g t cs) (ht : t ≠ 3) : g ∉ v.ownBlock.toList := by
 intro hm
 obtain ⟨_, _, cur, hcur⟩ := h.own (g := g) (by simpa using hm)
 exact hB.ne hcur ht rfl
theorem Mint.cell (h : Mint base W v xs) : v.cells = #[v] ∧ v.oneCell' = true := by
 rcases h.2 with ⟨rfl, _⟩ | ⟨g, cap, cur, rfl, _⟩
 · exact ⟨rfl, rfl⟩
 · exact ⟨rfl, rfl⟩
end
open Go.RowKit Go.Maps Go.Deep
theorem EvsAt.le {W : World} {A : Option Addr} {n m : Nat} {E : Nat → Ev} (h : EvsAt W A n E) (hm : m ≤ n) : EvsAt W A m E := fun h0 => by
 obtain ⟨ad, e, hb, hc⟩ := h (by omega)
 exact ⟨ad, e, hb, fun i j hi hj => hc i j (by omega) hj⟩
end Go.Proofs.Ytakmcpadkanggaa

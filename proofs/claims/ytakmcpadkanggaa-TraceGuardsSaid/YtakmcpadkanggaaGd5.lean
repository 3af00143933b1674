/-
  Part 5 of what this claim rests on.
-/
import Derived.Deep.DeepCutAuto
import Derived.Deep.CutBlock
import Derived.Test.YtakmcpadkanggaaGd4
namespace Go.Proofs.Ytakmcpadkanggaa
open Go.RowKit Go.Maps Go.Deep
section
variable {S : Sys} {E : Nat → Ev} {rm : Int → Int} {r j wn : Nat}
/-- Of each runner below r. -/
def nowN (E : Nat → Ev) (rm : Int → Int) (j : Nat) (i : Nat) : Int → Int := nowC E rm j (i : Int)
theorem note_now (h : OkAll S E (j + 1)) (hw : (E j).who = (wn : Int)) {nc : Nat → Int → Int} (hn : ∀ i, i ≠ wn → i < r → ∀ c : Nat, c < r → nc i c = nowN E rm j i c) (hs : ∀ c : Nat, c < r → nc wn c = clk E rm j c) : ∀ i, i < r → ∀ c : Nat, c < r → noteN r nc (clk E rm j) (E j) i c = nowN E rm (j + 1) i c := by
  intro i hi c hc
  have hj := h j (by omega)
  have hA : OkAll S E j := fun k hk => h k (by omega)
  have hwr := (ok_head hj).2.1
  have self : nowN E rm (j + 1) wn c = clk E rm j c := by
    unfold nowN
    rw [← hw, now_self]
  unfold noteN
  by_cases h14 : (E j).op = 14 ∧ 0 < (E j).v
  · rw [if_pos h14]
    have hv : (E j).v = (stN E j).r := by
      rcases ok_start hj h14.1 with e | e
      · omega
      · exact e.1
    by_cases e : i = (E j).v.toNat
    · have hiv : ((i : Nat) : Int) = (E j).v := by omega
      unfold updN
      rw [if_pos e, ← e]
      have hne : i ≠ wn := by omega
      have hz : ∀ q : Nat, q < r → nc i q = 0 := fun q hq => by
        rw [hn i hne hi q hq]
        unfold nowN
        rw [now_fresh hA (show (stN E j).r ≤ ((i : Nat) : Int) by omega)]
      have hb : nowN E rm (j + 1) i c = clk E rm j c := by
        unfold nowN
        rw [now_born hA (i := (i : Int)) (by omega) h14.1 h14.2 (by omega) (by omega)]
      rw [hb]
      unfold jmax
      rw [if_pos (by omega), Int.toNat_natCast, rowOf_get _ _ _ hc, hz c hc]
      have := clk_nonneg (E := E) (rm := rm) j c
      omega
    · unfold updN
      rw [if_neg e]
      by_cases e2 : i = wn
      · rw [e2, self, hs c hc]
      · rw [hn i e2 hi c hc]
        unfold nowN
        rw [now_other (by omega) (fun q => e (by have := q.2.2; omega))]
  · rw [if_neg h14]
    by_cases e2 : i = wn
    · rw [e2, self, hs c hc]
    · rw [hn i e2 hi c hc]
      unfold nowN
      rw [now_other (by omega) (fun q => h14 ⟨q.1, q.2.1⟩)]
theorem note_kc : ∀ i, i < 3 → noteK r (tkC E rm r j) (clk E rm j) (j : Int) (E j) i = tkC E rm r (j + 1) i := by
  have kb := keptB_nat (E := E) j
  intro i hi
  unfold noteK joinR
  by_cases h5 : (E j).op = 5 ∨ (E j).op = 6 ∨ (E j).op = 7
  · rw [if_pos h5]
    have hk : keptB E j = true := by rw [kb]; rcases h5 with h | h | h <;> simp [h]
    match i, hi with
    | 0, _ => rw [tk_keep hk]; rfl
    | 1, _ => rw [tk_add_not (by omega)]; rfl
    | 2, _ => rw [tk_free_not (by omega) (by omega)]; rfl
  · rw [if_neg h5]
    have hk : keptB E j = false := by
      rw [kb]
      simp only [Bool.or_eq_false_iff, beq_eq_false_iff_ne, ne_eq]
      omega
    by_cases h10 : (E j).op = 10
    · rw [if_pos h10]
      match i, hi with
      | 0, _ => rw [tk_keep_not hk]; rfl
      | 1, _ => rw [tk_add h10]; rfl
      | 2, _ => rw [tk_free_not (by omega) (by omega)]; rfl
    · rw [if_neg h10]
      by_cases h9 : (E j).op = 9
      · rw [if_pos h9]
        match i, hi with
        | 0, _ => rw [tk_keep_not hk]; rfl
        | 1, _ => rw [tk_add_not (by omega)]; rfl
        | 2, _ => rw [tk_free h9]; rfl
      · rw [if_neg h9]
        by_cases h8 : (E j).op = 8
        · rw [if_pos h8]
          match i, hi with
          | 0, _ => rw [tk_keep_not hk]; rfl
          | 1, _ => rw [tk_add_not (by omega)]; rfl
          | 2, _ => rw [tk_lock h8]; rfl
        · rw [if_neg h8]
          match i, hi with
          | 0, _ => rw [tk_keep_not hk]
          | 1, _ => rw [tk_add_not h10]
          | 2, _ => rw [tk_free_not h8 h9]
end
structure TS (w0 W : World) (L : List Ent) (Iv : World → List Nat → Prop) (base r gN : Nat) (nb mt : Nat → Nat) (X D F : List Nat) (nc : Nat → Int → Int) (kc : Nat → Int → List Int) (m : Nat) (rooms : Value) (p : Nat) (mb : Nat → Nat) (lk : Lk) (mL base2 : Nat) : Prop where
  own : Own w0 W [] L
  tk : ∃ f, TkAt W base r gN nb mt f X nc kc m
  la : ∃ fL, LinksAt W F rooms p mb fL lk mL base2
  iv : Iv W D
  bs : w0.heap.size ≤ base ∧ w0.heap.size ≤ base2
  dD : ∀ b ∈ D, w0.heap.size ≤ b ∧ b < W.heap.size
  dX : ∀ b ∈ D, b ∉ X
  dF : ∀ b ∈ D, b ∉ F ∧ b ≠ p
  xF : ∀ b ∈ X, b ∉ F ∧ b ≠ p
  lX : ∀ q ∈ L, q.1 ∉ X ∧ q.1 ∉ D ∧ q.1 ∉ F ∧ q.1 ≠ p
  hp : w0.heap.size ≤ p
/-- What the client has does not hang on other blocks than its own. -/
def IvOk (w0 : World) (Iv : World → List Nat → Prop) : Prop := ∀ W u D S, Iv W D → Keeps W u S → (∀ b ∈ S, b ∉ D ∧ w0.heap.size ≤ b) → Iv u D
section
variable {w0 W u : World} {L : List Ent} {Iv : World → List Nat → Prop} {base r gN : Nat} {nb mt : Nat → Nat} {X D F S F' X' D' : List Nat} {nc nc' : Nat → Int → Int} {kc kc' : Nat → Int → List Int} {m m' : Nat} {rooms : Value} {p : Nat} {mb : Nat → Nat} {lk lk' : Lk} {mL mL' base2 : Nat}
theorem TS.ltX (h : TS w0 W L Iv base r gN nb mt X D F nc kc m rooms p mb lk mL base2) : ∀ b ∈ X, base ≤ b ∧ b < W.heap.size := by obtain ⟨f, ht⟩ := h.tk; exact ht.ltX
theorem TS.ltF (h : TS w0 W L Iv base r gN nb mt X D F nc kc m rooms p mb lk mL base2) : ∀ b ∈ F, base2 ≤ b ∧ b < W.heap.size := by obtain ⟨f, ht⟩ := h.la; exact ht.ltF
theorem TS.ltp (h : TS w0 W L Iv base r gN nb mt X D F nc kc m rooms p mb lk mL base2) : p < W.heap.size := by obtain ⟨f, ht⟩ := h.la; exact ht.blk.lt
theorem TS.fresh (h : TS w0 W L Iv base r gN nb mt X D F nc kc m rooms p mb lk mL base2) (hI : IvOk w0 Iv) (K : Keeps W u []) : TS w0 u L Iv base r gN nb mt X D F nc kc m rooms p mb lk mL base2 := by
  obtain ⟨f, ht⟩ := h.tk
  obtain ⟨fL, hl⟩ := h.la
  exact ⟨h.own.keeps K, ⟨f, ht.keptS K (by simp)⟩, ⟨fL, hl.kept K (by simp)⟩, hI _ _ _ _ h.iv K (by simp), h.bs, fun b hb => ⟨(h.dD b hb).1, Nat.lt_of_lt_of_le (h.dD b hb).2 K.size⟩, h.dX, h.dF, h.xF, h.lX, h.hp⟩
/-- A new block of the call's own. -/
theorem TS.add (h : TS w0 W L Iv base r gN nb mt X D F nc kc m rooms p mb lk mL base2) (hI : IvOk w0 Iv) (K : Keeps W u []) {q : Ent} (O : Own w0 u [] (q :: L)) (hq : W.heap.size ≤ q.1) : TS w0 u (q :: L) Iv base r gN nb mt X D F nc kc m rooms p mb lk mL base2 := by
  have h1 := h.fresh hI K
  refine ⟨O, h1.tk, h1.la, h1.iv, h1.bs, h1.dD, h1.dX, h1.dF, h1.xF, fun x hx => ?_, h1.hp⟩
  rcases List.mem_cons.1 hx with rfl | hx
  · refine ⟨fun hm => ?_, fun hm => ?_, fun hm => ?_, fun e => ?_⟩
    · have := (h.ltX _ hm).2; omega
    · have := (h.dD _ hm).2; omega
    · have := (h.ltF _ hm).2; omega
    · have := h.ltp; omega
  · exact h1.lX x hx
theorem TS.drop_ (h : TS w0 W L Iv base r gN nb mt X D F nc kc m rooms p mb lk mL base2) (n : Nat) : TS w0 W (L.drop n) Iv base r gN nb mt X D F nc kc m rooms p mb lk mL base2 :=
  ⟨h.own.drop_ n, h.tk, h.la, h.iv, h.bs, h.dD, h.dX, h.dF, h.xF, fun q hq => h.lX q (List.mem_of_mem_drop hq), h.hp⟩
/-- A block of the call's own is written. -/
theorem TS.wrote (h : TS w0 W L Iv base r gN nb mt X D F nc kc m rooms p mb lk mL base2) (hI : IvOk w0 Iv) {g : Nat} (K : Keeps W u [g]) {L' : List Ent} (O : Own w0 u [] L') (hg : ∃ q ∈ L, q.1 = g) (hL : L'.map (·.1) = L.map (·.1)) : TS w0 u L' Iv base r gN nb mt X D F nc kc m rooms p mb lk mL base2 := by
  obtain ⟨f, ht⟩ := h.tk
  obtain ⟨fL, hl⟩ := h.la
  obtain ⟨q0, hq0, rfl⟩ := hg
  obtain ⟨a1, a2, a3, a4⟩ := h.lX q0 hq0
  refine ⟨O, ⟨f, ht.keptS K fun b hb => by rw [List.mem_singleton.1 hb]; exact a1⟩, ⟨fL, hl.kept K fun b hb => by rw [List.mem_singleton.1 hb]; exact ⟨a3, a4⟩⟩, hI _ _ _ _ h.iv K (fun b hb => by rw [List.mem_singleton.1 hb]; exact ⟨a2, by rcases Nat.lt_or_ge q0.1 w0.heap.size with hl | hl; (· exact absurd (h.own.new q0 hq0 hl) (by simp)); (· exact hl)⟩), h.bs, fun b hb => ⟨(h.dD b hb).1, Nat.lt_of_lt_of_le (h.dD b hb).2 K.size⟩, h.dX, h.dF, h.xF, fun x hx => ?_, h.hp⟩
  have hm : x.1 ∈ L.map (·.1) := by rw [← hL]; exact List.mem_map.2 ⟨x, hx, rfl⟩
  obtain ⟨y, hy, e⟩ := List.mem_map.1 hm
  rw [← e]
  exact h.lX y hy
/-- The runners' clocks or the kept rows are others: blocks of X alone were written. -/
theorem TS.tick (h : TS w0 W L Iv base r gN nb mt X D F nc kc m rooms p mb lk mL base2) (hI : IvOk w0 Iv) (K : Keeps W u X) {f : Nat → Int → Option Value} (T : TkAt u base r gN nb mt f X' nc' kc' m') (hX : ∀ b ∈ X', b ∈ X ∨ W.heap.size ≤ b) : TS w0 u L Iv base r gN nb mt X' D F nc' kc' m' rooms p mb lk mL base2 := by
  obtain ⟨fL, hl⟩ := h.la
  have hlt : ∀ b ∈ X, b < w0.heap.size → False := fun b hb hlt => by
    have := (h.ltX b hb).1
    have := h.bs.1
    omega
  refine ⟨h.own.wrote K (fun b hb hb' => (hlt b hb hb').elim) (fun q hq => (h.lX q hq).1), ⟨f, T⟩, ⟨fL, hl.kept K fun b hb => h.xF b hb⟩, hI _ _ _ _ h.iv K (fun b hb => ⟨fun hm => h.dX b hm hb, by have := (h.ltX b hb).1; have := h.bs.1; omega⟩), h.bs, fun b hb => ⟨(h.dD b hb).1, Nat.lt_of_lt_of_le (h.dD b hb).2 K.size⟩, fun b hb hm => ?_, h.dF, fun b hb => ?_, fun q hq => ?_, h.hp⟩
  · rcases hX b hm with h1 | h1
    · exact h.dX b hb h1
    · have := (h.dD b hb).2; omega
  · rcases hX b hb with h1 | h1
    · exact h.xF b h1
    · refine ⟨fun hm => ?_, fun e => ?_⟩
      · have := (h.ltF b hm).2; omega
      · have := h.ltp; omega
  · obtain ⟨a1, a2, a3, a4⟩ := h.lX q hq
    refine ⟨fun hm => ?_, a2, a3, a4⟩
    rcases hX _ hm with h1 | h1
    · exact a1 h1
    · have := (h.own.blk q hq).lt; omega
/-- The links are others. -/
theorem TS.link (h : TS w0 W L Iv base r gN nb mt X D F nc kc m rooms p mb lk mL base2) (hI : IvOk w0 Iv) (K : Keeps W u F) {fL : Nat → Int → Option Value} (LA : LinksAt u F' rooms p mb fL lk' mL' base2) (hF : ∀ b ∈ F', b ∈ F ∨ W.heap.size ≤ b) : TS w0 u L Iv base r gN nb mt X D F' nc kc m rooms p mb lk' mL' base2 := by
  obtain ⟨f, ht⟩ := h.tk
  refine ⟨h.own.wrote K (fun b hb hb' => ?_) (fun q hq => (h.lX q hq).2.2.1), ⟨f, ht.keptS K fun b hb hm => (h.xF b hm).1 hb⟩, ⟨fL, LA⟩, hI _ _ _ _ h.iv K (fun b hb => ⟨fun hm => (h.dF b hm).1 hb, by have := (h.ltF b hb).1; have := h.bs.2; omega⟩), h.bs, fun b hb => ⟨(h.dD b hb).1, Nat.lt_of_lt_of_le (h.dD b hb).2 K.size⟩, h.dX, fun b hb => ⟨fun hm => ?_, (h.dF b hb).2⟩, fun b hb => ⟨fun hm => ?_, (h.xF b hb).2⟩, fun q hq => ?_, h.hp⟩
  · have := (h.ltF b hb).1
    have := h.bs.2
    omega
  · rcases hF b hm with h1 | h1
    · exact (h.dF b hb).1 h1
    · have := (h.dD b hb).2; omega
  · rcases hF b hm with h1 | h1
    · exact (h.xF b hb).1 h1
    · have := (h.ltX b hb).2; omega
  · obtain ⟨a1, a2, a3, a4⟩ := h.lX q hq
    refine ⟨a1, a2, fun hm => ?_, a4⟩
    rcases hF _ hm with h1 | h1
    · exact a3 h1
    · have := (h.own.blk q hq).lt; omega
/-- The client has gone on. -/
theorem TS.client {Iv' : World → List Nat → Prop} (h : TS w0 W L Iv base r gN nb mt X D F nc kc m rooms p mb lk mL base2) (K : Keeps W u D) (hv : Iv' u D') (hD : ∀ b ∈ D', b ∈ D ∨ W.heap.size ≤ b) (hlt : ∀ b ∈ D', b < u.heap.size) : TS w0 u L Iv' base r gN nb mt X D' F nc kc m rooms p mb lk mL base2 := by
  obtain ⟨f, ht⟩ := h.tk
  obtain ⟨fL, hl⟩ := h.la
  refine ⟨h.own.wrote K (fun b hb hb' => ?_) (fun q hq => (h.lX q hq).2.1), ⟨f, ht.keptS K fun b hb => h.dX b hb⟩, ⟨fL, hl.kept K fun b hb => h.dF b hb⟩, hv, h.bs, fun b hb => ⟨?_, hlt b hb⟩, fun b hb hm => ?_, fun b hb => ⟨fun hm => ?_, fun e => ?_⟩, h.xF, fun q hq => ?_, h.hp⟩
  · have := (h.dD b hb).1; omega
  · rcases hD b hb with h1 | h1
    · exact (h.dD b h1).1
    · have := h.own.keep.size; omega
  · rcases hD b hb with h1 | h1
    · exact h.dX b h1 hm
    · have := (h.ltX b hm).2; omega
  · rcases hD b hb with h1 | h1
    · exact (h.dF b h1).1 hm
    · have := (h.ltF b hm).2; omega
  · rcases hD b hb with h1 | h1
    · exact (h.dF b h1).2 e
    · have := h.ltp; omega
  · obtain ⟨a1, a2, a3, a4⟩ := h.lX q hq
    refine ⟨a1, fun hm => ?_, a3, a4⟩
    rcases hD _ hm with h1 | h1
    · exact a2 h1
    · have := (h.own.blk q hq).lt; omega
theorem TkAt.nowsame2 {f : Nat → Int → Option Value} (h : TkAt W base r gN nb mt f X nc kc m) (e : ∀ i, i < r → ∀ j : Nat, j < r → nc i j = nc' i j) (e2 : ∀ i, i < 3 → kc i = kc' i) : TkAt W base r gN nb mt f X nc' kc' m :=
  { h.nowsame e with kept := fun i hi a => by have := h.kept i hi a; rw [e2 i hi] at this; exact this }
theorem TS.same (h : TS w0 W L Iv base r gN nb mt X D F nc kc m rooms p mb lk mL base2) (e : ∀ i, i < r → ∀ j : Nat, j < r → nc i j = nc' i j) (e2 : ∀ i, i < 3 → kc i = kc' i) : TS w0 W L Iv base r gN nb mt X D F nc' kc' m rooms p mb lk mL base2 := by
  obtain ⟨f, ht⟩ := h.tk
  exact { h with tk := ⟨f, ht.nowsame2 e e2⟩ }
theorem TS.mono (h : TS w0 W L Iv base r gN nb mt X D F nc kc m rooms p mb lk mL base2) (hm : m ≤ m') (hL : mL ≤ mL') : TS w0 W L Iv base r gN nb mt X D F nc kc m' rooms p mb lk mL' base2 := by
  obtain ⟨f, ht⟩ := h.tk
  obtain ⟨fL, hl⟩ := h.la
  exact { h with tk := ⟨f, ht.mono hm⟩, la := ⟨fL, hl.mono hL⟩ }
end
end Go.Proofs.Ytakmcpadkanggaa
namespace Go.Proofs.Ytakmcpadkanggaa
open Go.RowKit Go.Maps Go.Deep
theorem Own.rebase {w0 w W : World} {L : List Ent} (O : Own w W [] L) (K : Keeps w0 w []) : Own w0 W [] L := ⟨K.trans O.keep (by simp), O.blk, fun e he hlt => O.new e he (Nat.lt_of_lt_of_le hlt K.size), O.nd⟩
def rowsZ (r : Nat) (nb : Nat → Nat) (k : Nat) : Array Value := (Array.range r).map fun i => if i < k then .slice (some ⟨nb i, 0, none⟩) r r else .slice none 0 0
theorem rowsZ_size (r : Nat) (nb : Nat → Nat) (k : Nat) : (rowsZ r nb k).size = r := by simp [rowsZ]
theorem rowsZ_set (r : Nat) (nb : Nat → Nat) (k g : Nat) : (rowsZ r nb k).setIfInBounds k (.slice (some ⟨g, 0, none⟩) r r) = rowsZ r (updN nb k g) (k + 1) := by
  apply Array.ext_getElem?
  intro i
  rw [Array.getElem?_setIfInBounds, rowsZ_size]
  by_cases hi : i < r
  · by_cases e : k = i
    · subst e; rw [if_pos rfl, if_pos hi]; simp [rowsZ, hi, updN]
    · rw [if_neg e]
      by_cases h2 : i < k
      · simp [rowsZ, hi, h2, show i < k + 1 by omega, updN, show ¬ i = k from fun q => e q.symm]
      · simp [rowsZ, hi, h2, show ¬ i < k + 1 by omega]
  · by_cases e : k = i
    · subst e; rw [if_pos rfl, if_neg hi]; simp [rowsZ, hi]
    · rw [if_neg e]; simp [rowsZ, hi]
theorem rowsZ_all (r : Nat) (nb : Nat → Nat) : rowsZ r nb r = rowsA r nb := by
  unfold rowsZ rowsA
  apply Array.ext_getElem?
  intro i
  by_cases hi : i < r
  · simp [hi]
  · simp [hi]
section
variable {ops : Array Oper} {rest : List Oper} {o : Oper} {a : Act} {w W : World} {Q : Exit → Act → World → Prop} {S : List Nat} {L : List Ent} {x : Operand}
theorem own_makeIK (d n : Nat) (O : Own w W S L) (_hd : o.dst = some d) (hgd : o.guard = none) (ho : o.op = .makeSlice 25 x x) (hx : a.eval x = .int .i64 (n : Int)) (hn : n ≤ 1000000)
    (h : ∀ u g, Own w u S ((g, 3, arrI n fun _ => 0) :: L) → Keeps W u [] → W.heap.size ≤ g → wpList Try.prog ops Q rest (a.put o.dst (.slice (some ⟨g, 0, none⟩) n n)) u) : wpList Try.prog ops Q (o :: rest) a W := by
  refine wpList_plain hgd fun K hK => ?_
  unfold Oper.wp execOp
  simp only [ho, hx, Sem.run_bind, run_make_row' 25 3 (.int .i64 0) 8 Try.underlying25 info3' rfl .i64 .i64 n (by omega) (by omega), Result.andThen_ok, Sem.run_pure]
  have k := (Keeps.refl W []).alloc (.cells (arrI n fun _ => 0) 3)
  refine hK _ _ ?_
  rw [made_I]
  exact h _ _ (O.add k (Blk.new _ _ _)) k (Nat.le_refl _)
theorem info25' : (Try.prog.info? 25).map (fun i => (i.zero, i.size, i.bytes)) = some (some (.slice none 0 0), 1, 24) := by kernel_rfl
theorem own_makeSK (d n : Nat) (O : Own w W S L) (_hd : o.dst = some d) (hgd : o.guard = none) (ho : o.op = .makeSlice 68 x x) (hx : a.eval x = .int .i64 (n : Int)) (hn : n ≤ 1000000)
    (h : ∀ u g, Own w u S ((g, 25, rowsZ n (fun _ => 0) 0) :: L) → Keeps W u [] → W.heap.size ≤ g → wpList Try.prog ops Q rest (a.put o.dst (.slice (some ⟨g, 0, none⟩) n n)) u) : wpList Try.prog ops Q (o :: rest) a W := by
  refine wpList_plain hgd fun K hK => ?_
  unfold Oper.wp execOp
  simp only [ho, hx, Sem.run_bind, run_make_row' 68 25 (.slice none 0 0) 24 Try.underlying68 info25' rfl .i64 .i64 n (by omega) (by omega), Result.andThen_ok, Sem.run_pure]
  have k := (Keeps.refl W []).alloc (.cells (rowsZ n (fun _ => 0) 0) 25)
  refine hK _ _ ?_
  have e : madeCells #[Value.slice none 0 0] n = rowsZ n (fun _ => 0) 0 := by
    apply Array.ext_getElem?
    intro j
    by_cases hj : j < n
    · simp [madeCells, rowsZ, hj, Nat.mod_one]
    · simp [madeCells, rowsZ, hj]
  rw [e]
  exact h _ _ (O.add k (Blk.new _ _ _)) k (Nat.le_refl _)
end
/-- The function is one of the program's own. -/
def FnOk (fn : Nat) : Prop := ∀ (args : Array Value) (w : World), (callFunc fn args).run Try.prog w = .ok (.enter fn args) w
theorem wpList_call_fn {ops : Array Oper} {rest : List Oper} {o : Oper} {a : Act} {W : World} {Q : Exit → Act → World → Prop} {x y0 y1 : Operand} {ats : Array TypeId} {fn : Nat} {caps : Array Value} (v0 v1 : Value) (hgd : o.guard = none) (ho : o.op = .call { callee := .value x, args := #[y0, y1], argTypes := ats }) (hx : a.eval x = .func (.func fn) #[] caps) (h0 : a.eval y0 = v0) (h1 : a.eval y1 = v1) (hf : FnOk fn)
    (h : Calls Try.prog fn (#[v0, v1] ++ caps) W fun e u => ∃ v, e = .returned v ∧ wpList Try.prog ops Q rest (a.put o.dst v) u) : wpList Try.prog ops Q (o :: rest) a W := by
  refine wpList_plain hgd fun K hK => ?_
  have hr : (execOp a.eval o).run Try.prog W = .ok (.enter fn (#[v0, v1] ++ caps)) W := by
    unfold execOp
    simp only [ho, resolve, hx, Deferred.ofValue, invoke, Sem.run_bind, Sem.run_pure, Result.andThen_ok, List.map_toArray, List.map_cons, List.map_nil, h0, h1, Array.empty_append]
    exact hf (#[v0, v1] ++ caps) W
  unfold Oper.wp
  rw [hr, Oper.upon_enter]
  exact h.mono fun e u ⟨v, he, hw⟩ => by subst he; exact hK _ _ hw
section
variable {w0 w : World} {S : Sys} {A : Option Addr} {c : Nat} {R : Option Addr} {d m r : Nat} {E : Nat → Ev} {B : Option Addr} {cb : Nat}
/-- The beginning. -/
theorem ts_start {W u : World} {Iv : World → List Nat → Prop} {gN b4 p : Nat} {nb mt : Nat → Nat} {F D0 : List Nat} {mb : Nat → Nat} {fL : Nat → Int → Option Value} {rm : Int → Int} {rooms : Value} (K0 : Keeps w0 w []) (O : Own w W [] [(gN, 25, rowsA r nb), (b4, 27, sysV S A c R d)]) (hI : IvOk w0 Iv) (h0 : Iv w D0) (hD0 : ∀ b ∈ D0, w0.heap.size ≤ b ∧ b < w.heap.size)
    (hgN : w.heap.size ≤ gN) (hb4 : w.heap.size ≤ b4) (hb4g : b4 < gN) (hrow : ∀ i, i < r → ClkAt W (nb i) r (fun _ => 0) ∧ b4 < nb i) (hne : ∀ i j, i < r → j < r → i ≠ j → nb i ≠ nb j)
    (hmt : ∀ i, i < 3 → MapV W (mt i) 0 (fun _ => none) ∧ b4 < mt i) (hmn : ∀ i j, i < 3 → j < 3 → i ≠ j → mt i ≠ mt j) (KW : Keeps W u []) (LA : LinksAt u F rooms p mb fL lk0 0 W.heap.size) (hp : W.heap.size ≤ p) :
    ∃ X, TS w0 u [(b4, 27, sysV S A c R d)] Iv w.heap.size r gN nb mt X D0 F (nowN E rm 0) (tkC E rm r 0) 0 rooms p mb lk0 0 W.heap.size := by
  have hw := K0.size
  have hgl := (O.get 0 rfl).lt
  have hbl := (O.get 1 rfl).lt
  have hX : ∀ b ∈ gN :: mt 0 :: mt 1 :: mt 2 :: (List.range r).map nb, b4 < b ∧ b < W.heap.size := fun b hb => by
    simp only [List.mem_cons, List.mem_map, List.mem_range] at hb
    rcases hb with rfl | rfl | rfl | rfl | ⟨i, hi, rfl⟩
    · exact ⟨hb4g, hgl⟩
    · exact ⟨(hmt 0 (by decide)).2, (hmt 0 (by decide)).1.lt⟩
    · exact ⟨(hmt 1 (by decide)).2, (hmt 1 (by decide)).1.lt⟩
    · exact ⟨(hmt 2 (by decide)).2, (hmt 2 (by decide)).1.lt⟩
    · exact ⟨(hrow i hi).2, (hrow i hi).1.lt⟩
  have hF : ∀ b ∈ F, W.heap.size ≤ b := fun b hb => (LA.ltF b hb).1
  have hkn : ∀ i a, rowV (fun _ _ => none) i a = Value.slice none 0 0 := fun _ _ => rfl
  refine ⟨gN :: mt 0 :: mt 1 :: mt 2 :: (List.range r).map nb, ((O.rebase K0).drop_ 1).keeps KW, ⟨fun _ _ => none, (O.get 0 rfl).keeps KW (by simp), fun i hi => ?_, fun i hi => (hmt i hi).1.keeps KW (by simp), fun i hi a => ?_, by simp, fun i hi => ?_, fun i hi => ?_, (fun i hi a g hg => by cases hg), fun b hb => ⟨by have := (hX b hb).1; omega, by have := (hX b hb).2; have := KW.size; omega⟩, hne, hmn, (fun i hi a g hg => by cases hg)⟩, ⟨fL, LA⟩, hI _ _ _ _ h0 (O.keep.trans KW (by simp)) (by simp), ⟨hw, by omega⟩, fun b hb => ⟨(hD0 b hb).1, by have := (hD0 b hb).2; have := KW.size; omega⟩, fun b hb hm => ?_, fun b hb => ⟨fun hm => ?_, fun e => ?_⟩, fun b hb => ⟨fun hm => ?_, fun e => ?_⟩, fun q hq => ?_, by omega⟩
  · refine ((hrow i hi).1.keeps KW (by simp)).same fun j hj => ?_
    rfl
  · rw [hkn]
    have e : tkC E rm r 0 i a = [] := by
      unfold tkC
      split
      · rw [if_neg (by omega)]
      · split
        · rw [if_pos (by simp [pickL])]
        · rw [if_pos (by simp [freeL, pickL])]
    rw [e]
    exact HRow.nil _ _
  · simp only [List.mem_cons, List.mem_map, List.mem_range]
    exact .inr (.inr (.inr (.inr ⟨i, hi, rfl⟩)))
  · match i, hi with
    | 0, _ => simp
    | 1, _ => simp
    | 2, _ => simp
  · have := (hD0 b hb).2; have := (hX b hm).1; omega
  · have := (hD0 b hb).2; have := hF b hm; omega
  · have := (hD0 b hb).2; omega
  · have := (hX b hb).2; have := hF b hm; omega
  · have := (hX b hb).2; omega
  · rw [List.mem_singleton.1 hq]
    refine ⟨fun hm => ?_, fun hm => ?_, fun hm => ?_, fun e => ?_⟩
    · have := (hX _ hm).1; omega
    · have := (hD0 _ hm).2; simp only at this; omega
    · have := hF _ hm; simp only at this; omega
    · simp only at e; omega
def SeePost (Iv : World → List Nat → Prop) (b : Bool) (u : World) (D : List Nat) (e : Ending) (u' : World) : Prop :=
  e = .returned (.bool b) ∧ (∃ D', Iv u' D' ∧ (∀ q ∈ D', q ∈ D ∨ u.heap.size ≤ q) ∧ ∀ q ∈ D', q < u'.heap.size) ∧ Keeps u u' D
def TicksPost (Inv : Nat → World → List Nat → Prop) (cont : Nat → Bool) (w0 : World) (m : Nat) (e : Ending) (u : World) : Prop :=
  e = .returned (.tuple #[]) ∧ Keeps w0 u [] ∧ ∃ k D, Inv k u D ∧ ((k = m ∧ ∀ i, i < m → cont i = true) ∨ ∃ i, k = i + 1 ∧ i < m ∧ cont i = false ∧ ∀ q, q < i → cont q = true)
set_option maxRecDepth 100000 in
set_option maxHeartbeats 4000000 in
theorem ticks_any (fn : Nat) (caps : Array Value) (Inv : Nat → World → List Nat → Prop) (cont : Nat → Bool) (D0 : List Nat) (K0 : Keeps w0 w []) (hS : SysIn w0 S A c R d) (hE : EvsAt w0 B m E) (hrm : ∀ q, q < S.nr → 1 ≤ S.rm q ∧ S.rm q ≤ 1000000) (hok : OkAll S E m) (hm : m ≤ 40000) (hwf : ∀ i, i < m → (Lit.int .i64 (E i).a).wf = true)
    (hr : (stN E m).r ≤ r) (hr2 : r ≤ 1000000) (hfn : FnOk fn) (hI : ∀ k, IvOk w0 (Inv k)) (h0 : Inv 0 w D0) (hD0 : ∀ b ∈ D0, w0.heap.size ≤ b ∧ b < w.heap.size)
    (hC : ∀ k, k < m → ∀ u D g, Inv k u D → g ∉ D → ClkAt u g r (clk E (rmS S) k) → Calls Try.prog fn (#[.int .i64 (k : Int), .slice (some ⟨g, 0, none⟩) r r] ++ caps) u (SeePost (Inv (k + 1)) (cont k) u D)) :
    Calls Try.prog 72 #[.agg (sysV S A c R d), .slice B m cb, .int .i64 (r : Int), .func (.func fn) #[] caps] w (TicksPost Inv cont w0 m) := by
  have O := Own.start w []
  have HE := Lib.hid hE
  have HS := Lib.hid hS
  have HK0 := Lib.hid K0
  have HI := Lib.hid hI
  have H0 := Lib.hid h0
  have HD0 := Lib.hid hD0
  have HOK := Lib.hid hok
  have HRM := Lib.hid hrm
  have HWF := Lib.hid hwf
  have HR := Lib.hid hr
  have HC := Lib.hid hC
  have HFN := Lib.hid hfn
  clear hE hS K0 hI h0 hD0 hok hrm hwf hr hC hfn
  go_enter Try.func72, Try.ntmps72
  go_wp2_with (first
    | (have hws := O.keep.size; refine own_boxK 4 (sysV S A c R d) O rfl rfl rfl rfl ?_; clear O; intro W b4 O K hb; have HB4 := Lib.hid (Nat.le_trans hws hb); clear hb K hws; simp only [Act.put, List.setIfInBounds_toArray, List.set_cons_zero, List.set_cons_succ])
    | (have hws := O.keep.size; have hb4 := O.lt 0 rfl; refine own_makeSK 20 r O rfl rfl rfl rfl hr2 ?_; clear O; intro W gN O K hb; have HGN := Lib.hid (And.intro (Nat.le_trans hws hb) (show b4 < gN by omega)); clear K hb hws hb4; simp only [Act.put, List.setIfInBounds_toArray, List.set_cons_zero, List.set_cons_succ]))
  go_loopg [23] r (fun g s23 wr => ∃ (k : Nat) (nb : Nat → Nat), k ≤ r ∧ g = r - k ∧ s23 = .int .i64 (k : Int) ∧ Own w wr [] [(gN, 25, rowsZ r nb k), (b4, 27, sysV S A c R d)] ∧ (∀ i, i < k → ClkAt wr (nb i) r (fun _ => 0) ∧ b4 < nb i) ∧ ∀ i j, i < k → j < k → i ≠ j → nb i ≠ nb j)
  case atStart => exact ⟨0, fun _ => 0, by omega, by omega, rfl, O, fun i hi => by omega, fun i j hi => by omega⟩
  case round =>
    obtain ⟨k, nb, hk, hgk, rfl, O, hrow, hne⟩ := hrel
    have HG := Lib.hid hgk
    have HROW := Lib.hid hrow
    have HNE := Lib.hid hne
    clear hgk hrow hne
    by_cases hlt : k < r
    · have g1 : (k : Int) < r := by omega
      have g0 : (0 : Int) ≤ k := by omega
      go_wp2_with (first
        | (have hb4 := O.lt 1 rfl; refine own_makeIK 29 r O rfl rfl rfl rfl hr2 ?_; clear O; intro W g O K hb; have HG2 := Lib.hid (And.intro (show b4 < g by omega) (fun i (hi : i < k) => (show ClkAt W (nb i) r (fun _ => 0) ∧ nb i < g from ⟨(HROW.out i hi).1.keeps K (by simp), by have := (HROW.out i hi).1.lt; omega⟩))); clear K hb hb4; simp only [Act.put, List.setIfInBounds_toArray, List.set_cons_zero, List.set_cons_succ])
        | (refine wpList_store_blk gN k 25 (rowsZ r nb k) (.slice (some ⟨g, 0, none⟩) r r) rfl rfl rfl rfl rfl (O.get 1 rfl) (by rw [rowsZ_size]; exact hlt) rfl rfl (by kernel_rfl) ?_; intro W2 K B; have hbn := blk_ne (O.get 0 rfl) (O.get 1 rfl) (by decide); rw [rowsZ_set] at B; have O2 := (O.set 1 rfl K B).drop_ 1; have hg0 := (O.get 0 rfl).keeps K (by simpa using hbn); have HN := Lib.hid (show (∀ i, i < k + 1 → ClkAt W2 (updN nb k g i) r (fun _ => 0) ∧ b4 < updN nb k g i) ∧ ∀ i j, i < k + 1 → j < k + 1 → i ≠ j → updN nb k g i ≠ updN nb k g j from ⟨fun i hi => by
            unfold updN
            by_cases e : i = k
            · rw [if_pos e]; exact ⟨⟨_, hg0, CurI.arr _ _⟩, HG2.out.1⟩
            · rw [if_neg e]
              obtain ⟨cur, hb, hc⟩ := (HG2.out.2 i (by omega)).1
              exact ⟨⟨cur, hb.keeps K (by simpa using blk_ne hb (O.get 1 rfl) (by decide)), hc⟩, (HROW.out i (by omega)).2⟩, fun i j hi hj hij => by
            unfold updN
            by_cases e : i = k
            · rw [if_pos e, if_neg (by omega)]; have := (HG2.out.2 j (by omega)).2; omega
            · rw [if_neg e]
              by_cases e2 : j = k
              · rw [if_pos e2]; have := (HG2.out.2 i (by omega)).2; omega
              · rw [if_neg e2]; exact HNE.out i j (by omega) (by omega) hij⟩); clear K B hbn hg0 O))
      go_roundg (r - (k + 1))
      case measure => (have := HG.out; omega)
      case rel => exact ⟨k + 1, updN nb k g, by omega, rfl, by go_num, O2, HN.out.1, HN.out.2⟩
    · obtain rfl : r = k := by omega
      clear HG
      rw [rowsZ_all] at O
      go_wp2_with (first
        | (have hb4 := O.lt 1 rfl; refine at_dst 32 rfl ?_; refine own_makeMapV 32 O rfl rfl rfl ?_; clear O; intro W m0 O K M hb; have HR0 := Lib.hid (fun i (hi : i < r) => (HROW.out i hi).1.keeps K (by simp)); have hm0 : b4 < m0 := (by omega); clear K hb hb4; simp only [Act.put, List.setIfInBounds_toArray, List.set_cons_zero, List.set_cons_succ])
        | (have hl0 := M.lt; refine at_dst 33 rfl ?_; refine own_makeMapV 33 O rfl rfl rfl ?_; clear O; intro W m1 O K M1 hb; replace M := M.keeps K (by simp); have HR1 := Lib.hid (fun i (hi : i < r) => (HR0.out i hi).keeps K (by simp)); have hm1 : m0 < m1 := (by omega); clear K hb hl0 HR0; simp only [Act.put, List.setIfInBounds_toArray, List.set_cons_zero, List.set_cons_succ])
        | (have hl1 := M1.lt; refine at_dst 34 rfl ?_; refine own_makeMapV 34 O rfl rfl rfl ?_; clear O; intro W m2 O K M2 hb; replace M := M.keeps K (by simp); replace M1 := M1.keeps K (by simp); have HR2 := Lib.hid (fun i (hi : i < r) => (HR1.out i hi).keeps K (by simp)); have hm2 : m1 < m2 := (by omega); clear K hb hl1 HR1; simp only [Act.put, List.setIfInBounds_toArray, List.set_cons_zero, List.set_cons_succ])
        | (refine own_load 35 1 O rfl rfl rfl rfl rfl Try.underlying27 rfl (by kernel_rfl) ?_; simp only [Act.put, List.setIfInBounds_toArray, List.set_cons_zero, List.set_cons_succ])
        | (go_at_call 69; refine newLinks_any.mono ?_; rintro e W' ⟨⟨p, F, mb, fL, rfl, LA, hp⟩, K⟩; obtain ⟨mt, q0, q1, q2⟩ : ∃ mt : Nat → Nat, mt 0 = m0 ∧ mt 1 = m1 ∧ mt 2 = m2 := ⟨fun i => [m0, m1, m2].getD i 0, rfl, rfl, rfl⟩; subst q0 q1 q2; obtain ⟨X, T⟩ := ts_start (E := E) (rm := rmS S) HK0.out O (HI.out 0) H0.out HD0.out HGN.out.1 HB4.out HGN.out.2 (fun i hi => ⟨HR2.out i hi, (HROW.out i hi).2⟩) HNE.out (fun i hi => match i, hi with | 0, _ => ⟨M, hm0⟩ | 1, _ => ⟨M1, by omega⟩ | 2, _ => ⟨M2, by omega⟩) (fun i j hi hj hij => by match i, hi, j, hj with | 0, _, 0, _ => omega | 0, _, 1, _ => omega | 0, _, 2, _ => omega | 1, _, 0, _ => omega | 1, _, 1, _ => omega | 1, _, 2, _ => omega | 2, _, 0, _ => omega | 2, _, 1, _ => omega | 2, _, 2, _ => omega) K LA hp; clear O K LA hp M M1 M2 hm0 hm1 hm2 HR2))
      clear HROW HNE HGN HB4
      obtain ⟨base2, hb2⟩ : ∃ b, b = W.heap.size := ⟨_, rfl⟩
      rw [← hb2] at T
      clear hb2
      go_loopg [39] m (fun g s39 wr => ∃ (k : Nat) (X D F : List Nat) (q mL : Nat), k ≤ m ∧ g = m - k ∧ s39 = .int .i64 (k : Int) ∧ TS w0 wr [(b4, 27, sysV S A c R d)] (Inv k) w.heap.size r gN nb mt X D F (nowN E (rmS S) k) (tkC E (rmS S) r k) q (.slice R S.nr d) p mb (lkT E k) mL base2 ∧ q ≤ k ∧ mL ≤ 2 * k ∧ ∀ i, i < k → cont i = true)
      case atStart => exact ⟨0, X, D0, F, 0, 0, by omega, by omega, rfl, T, by omega, by omega, fun i hi => by omega⟩
      case round =>
        clear T
        obtain ⟨k, X, D, F, q, mL, hk, hgk, rfl, T, hq, hmL, hct⟩ := hrel
        have HG := Lib.hid hgk
        have HCT := Lib.hid hct
        clear hgk hct
        by_cases hlt : k < m
        · have g1 : (k : Int) < m := by omega
          have g0 : (0 : Int) ≤ k := by omega
          obtain ⟨ad, rfl, hc⟩ := EvsAt.row (u := w0) HE.out hlt
          have HCE := Lib.hid hc
          have hok := HOK.out k hlt
          have HOKk := Lib.hid hok
          obtain ⟨hw1, hw2, _⟩ := ok_head hok
          obtain ⟨wn, hwn⟩ : ∃ wn : Nat, (E k).who = (wn : Int) := ⟨(E k).who.toNat, by omega⟩
          have hwr : wn < r := by
            have := stN_r_mono E (show k ≤ m by omega)
            have := HR.out
            omega
          have HWN := Lib.hid hwn
          obtain ⟨e, he⟩ : ∃ e, e = E k := ⟨_, rfl⟩
          have HEK := Lib.hid he
          rw [← he] at hc HCE hwn
          clear hc hok hw1 hw2
          obtain ⟨who, op, a, v, sh⟩ := e
          simp only at hwn
          subst hwn
          have g2 : (wn : Int) < r := by omega
          have g3 : (0 : Int) ≤ wn := by omega
          clear he
          go_upto_block 4 with (first
            | (refine wpList_load_at 43 rfl rfl rfl rfl (HCE.out [] _ T.own.keep (by simp)) Try.underlying37 rfl (by kernel_rfl) ?_; simp only [Act.put, List.setIfInBounds_toArray, List.set_cons_zero, List.set_cons_succ])
            | (refine own_allocK 15 (evC ⟨0, 0, 0, 0, false⟩) T.own rfl rfl rfl (fun _ => by kernel_rfl) ?_; intro W1 b15 O K1 hb; replace T := T.add (HI.out k) K1 O hb; clear O K1 hb; simp only [Act.put, List.setIfInBounds_toArray, List.set_cons_zero, List.set_cons_succ])
            | (refine own_store_rowK 0 (.tmp 15) (.tmp 43) T.own rfl rfl rfl rfl rfl rfl (by kernel_rfl) (by rfl) (evC_cell _) ?_; intro W2 O K2; simp only [List.set_cons_zero] at O; replace T := T.wrote (HI.out k) K2 O ⟨(b15, 37, evC ⟨0, 0, 0, 0, false⟩), by simp, rfl⟩ rfl; clear O K2; have c15 : ∀ i : Nat, W2.cell? ⟨b15, i, none⟩ = #[Value.int .i64 (wn : Int), .int .i64 op, .int .i64 a, .int .i64 v, .bool sh][i]? := (T.own.get 0 rfl).cell; have cN : W2.cell? ⟨gN, wn, none⟩ = some (.slice (some ⟨nb wn, 0, none⟩) r r) := (by obtain ⟨f, ht⟩ := T.tk; exact (ht.now.cell wn).trans (rowsA_get _ _ _ hwr))))
          go_cut [] (fun wx => ∃ F2, TS w0 wx [(b15, 37, evC ⟨(wn : Int), op, a, v, sh⟩), (b4, 27, sysV S A c R d)] (Inv k) w.heap.size r gN nb mt X D F2 (updN (nowN E (rmS S) k) wn (mxC E (rmS S) (intoL E (rmS S) k))) (tkC E (rmS S) r k) q (.slice R S.nr d) p mb (lkT E (k + 1)) (mL + 2) base2)
          case first =>
            have HML := Lib.hid (show mL ≤ 80000 by omega)
            have HWW := Lib.hid (wf_small (n := (wn : Int)) (by omega) (by omega))
            have HWA := Lib.hid (by have := HWF.out k hlt; rwa [← HEK.out] at this : (Lit.int .i64 a).wf = true)
            by_cases o11 : op = 11
            · subst o11
              have HLQ := Lib.hid (show ownK (lkT E k) (wn : Int) (k : Int) = lkT E (k + 1) by rw [lkT, if_pos (by rw [← HEK.out]; rfl), ← HEK.out])
              have HLW := Lib.hid (wait_now (E := E) (rm := rmS S) (r := r) (j := k) (by rw [← HEK.out]))
              rw [← HEK.out] at HLW
              obtain ⟨f, ht⟩ := T.tk
              obtain ⟨A1, q1, e1, _⟩ := (ht.kept 1 (by decide) (a)).shape
              have hR := ht.kept 1 (by decide) (a)
              obtain ⟨xs, hxs⟩ : ∃ xs, xs = tkC E (rmS S) r k 1 (a) := ⟨_, rfl⟩
              obtain ⟨n1, hn1⟩ : ∃ n, n = xs.length := ⟨_, rfl⟩
              have HXL := Lib.hid (show xs.length ≤ r by rw [hxs]; rcases tkC_len E (rmS S) r k 1 (a) with h | h <;> rw [h] <;> simp)
              rw [← hxs, ← hn1] at e1
              rw [← hxs] at hR
              have HNB := Lib.hid (show ∀ g, (Value.slice A1 n1 q1).ownBlock = some g → nb wn ≠ g from fun g hg => ht.nbk 1 (by decide) (a) g (by rw [e1]; exact hg) wn hwr)
              rw [e1] at hR
              have lk : (Instr.lookup 159 (.map (some (mt 1))) (.int .i64 (a)) false).run Try.prog W2 = .ok (.slice A1 n1 q1) W2 := by
                have := look_eqV (ht.maps 1 (by decide)) 159 25 (.slice none 0 0) Try.underlying159 (zero25 _) (a) HWA.out
                rwa [show (f 1 (a)).getD (.slice none 0 0) = .slice A1 n1 q1 from e1] at this
              have HXS := Lib.hid hxs
              clear e1 hxs hn1 ht f
              have HLN := Lib.hid (show ∀ w : Nat, w < r → jmax (nowN E (rmS S) k wn) xs xs.length (w : Int) = mxC E (rmS S) (intoL E (rmS S) k) (w : Int) by rw [HXS.out]; exact HLW.out)
              clear HLW
              go_wp2_with (first
                | (refine own_litS 74 (.slice A1 n1 q1) T.own rfl rfl rfl rfl rfl ?_; clear lk; intro W3 gl O K hgl; replace T := T.add (HI.out k) K O hgl; replace hR := hR.keeps K (by simp); clear O K hgl; simp only [Act.put, List.setIfInBounds_toArray, List.set_cons_zero, List.set_cons_succ])
                | (go_at_call 99; obtain ⟨f3, ht3⟩ := T.tk; obtain ⟨cur, hBv, hcv⟩ := ht3.rows wn hwr; refine (joined_any hBv hcv (T.own.get 0 rfl) (by have := hR.listL.1; exact this) (HXL.out) hr2 (fun ad n q hv hn => ?_)).mono ?_; (· (exact fun e => HNB.out ad.block (by rw [hv]; rfl) e.symm)); rintro e W4 ⟨rfl, ⟨cu2, hB2, hs2, hc2⟩, K⟩; have T2 := (T.tick (HI.out k) (K.wide (L' := X) (fun b hb => by rw [List.mem_singleton.1 hb]; exact ht3.nX wn hwr)) (ht3.setNow hwr K ⟨cu2, hB2, hc2⟩) (fun b hb => .inl hb)).drop_ 1; clear T; have T := T2; clear T2 ht3 f3 hBv hcv hB2 hs2 hc2 K; have c15 : ∀ i : Nat, W4.cell? ⟨b15, i, none⟩ = #[Value.int .i64 (wn : Int), .int .i64 11, .int .i64 a, .int .i64 v, .bool sh][i]? := (T.own.get 0 rfl).cell)
                | (refine own_load 78 0 T.own rfl rfl rfl rfl rfl Try.underlying37 rfl (by kernel_rfl) ?_; simp only [Act.put, List.setIfInBounds_toArray, List.set_cons_zero, List.set_cons_succ])
                | (go_at_call 94; obtain ⟨fL, hl⟩ := T.la; refine (own_any hl HWW.out (by have := HML.out; simp only [maxLen]; omega)).mono ?_; rintro e W5 ⟨rr, rfl, _, LA, K⟩; have T2 := T.link (HI.out k) (K.wide (L' := F) (fun b hb => by rw [List.mem_singleton.1 hb]; exact hl.inM 4 (by decide))) LA (fun b hb => .inl hb); clear T; have T := T2; clear T2 LA K hl fL))
              go_meet
              exact ⟨_, (by have T3 := T.same (nc' := updN (nowN E (rmS S) k) wn (mxC E (rmS S) (intoL E (rmS S) k))) (kc' := tkC E (rmS S) r k) (fun i hi j hj => by by_cases e : i = wn; (· (subst e; simp only [updN, if_true]; exact HLN.out j hj)); (· (simp only [updN, if_neg e]))) (fun i hi => rfl); rw [HLQ.out] at T3; exact T3.mono (Nat.le_refl _) (by omega))⟩
            by_cases o8 : op = 8
            · subst o8
              have HLQ := Lib.hid (show ownK (lkT E k) (wn : Int) (k : Int) = lkT E (k + 1) by rw [lkT, if_pos (by rw [← HEK.out]; rfl), ← HEK.out])
              have HLW := Lib.hid (lock_now (E := E) (rm := rmS S) (r := r) (j := k) (by rw [← HEK.out]))
              rw [← HEK.out] at HLW
              obtain ⟨f, ht⟩ := T.tk
              obtain ⟨A1, q1, e1, _⟩ := (ht.kept 2 (by decide) (a)).shape
              have hR := ht.kept 2 (by decide) (a)
              obtain ⟨xs, hxs⟩ : ∃ xs, xs = tkC E (rmS S) r k 2 (a) := ⟨_, rfl⟩
              obtain ⟨n1, hn1⟩ : ∃ n, n = xs.length := ⟨_, rfl⟩
              have HXL := Lib.hid (show xs.length ≤ r by rw [hxs]; rcases tkC_len E (rmS S) r k 2 (a) with h | h <;> rw [h] <;> simp)
              rw [← hxs, ← hn1] at e1
              rw [← hxs] at hR
              have HNB := Lib.hid (show ∀ g, (Value.slice A1 n1 q1).ownBlock = some g → nb wn ≠ g from fun g hg => ht.nbk 2 (by decide) (a) g (by rw [e1]; exact hg) wn hwr)
              rw [e1] at hR
              have lk : (Instr.lookup 159 (.map (some (mt 2))) (.int .i64 (a)) false).run Try.prog W2 = .ok (.slice A1 n1 q1) W2 := by
                have := look_eqV (ht.maps 2 (by decide)) 159 25 (.slice none 0 0) Try.underlying159 (zero25 _) (a) HWA.out
                rwa [show (f 2 (a)).getD (.slice none 0 0) = .slice A1 n1 q1 from e1] at this
              have HXS := Lib.hid hxs
              clear e1 hxs hn1 ht f
              have HLN := Lib.hid (show ∀ w : Nat, w < r → jmax (nowN E (rmS S) k wn) xs xs.length (w : Int) = mxC E (rmS S) (intoL E (rmS S) k) (w : Int) by rw [HXS.out]; exact HLW.out)
              clear HLW
              go_wp2_with (first
                | (refine own_litS 87 (.slice A1 n1 q1) T.own rfl rfl rfl rfl rfl ?_; clear lk; intro W3 gl O K hgl; replace T := T.add (HI.out k) K O hgl; replace hR := hR.keeps K (by simp); clear O K hgl; simp only [Act.put, List.setIfInBounds_toArray, List.set_cons_zero, List.set_cons_succ])
                | (go_at_call 99; obtain ⟨f3, ht3⟩ := T.tk; obtain ⟨cur, hBv, hcv⟩ := ht3.rows wn hwr; refine (joined_any hBv hcv (T.own.get 0 rfl) (by have := hR.listL.1; exact this) (HXL.out) hr2 (fun ad n q hv hn => ?_)).mono ?_; (· (exact fun e => HNB.out ad.block (by rw [hv]; rfl) e.symm)); rintro e W4 ⟨rfl, ⟨cu2, hB2, hs2, hc2⟩, K⟩; have T2 := (T.tick (HI.out k) (K.wide (L' := X) (fun b hb => by rw [List.mem_singleton.1 hb]; exact ht3.nX wn hwr)) (ht3.setNow hwr K ⟨cu2, hB2, hc2⟩) (fun b hb => .inl hb)).drop_ 1; clear T; have T := T2; clear T2 ht3 f3 hBv hcv hB2 hs2 hc2 K; have c15 : ∀ i : Nat, W4.cell? ⟨b15, i, none⟩ = #[Value.int .i64 (wn : Int), .int .i64 8, .int .i64 a, .int .i64 v, .bool sh][i]? := (T.own.get 0 rfl).cell)
                | (refine own_load 91 0 T.own rfl rfl rfl rfl rfl Try.underlying37 rfl (by kernel_rfl) ?_; simp only [Act.put, List.setIfInBounds_toArray, List.set_cons_zero, List.set_cons_succ])
                | (go_at_call 94; obtain ⟨fL, hl⟩ := T.la; refine (own_any hl HWW.out (by have := HML.out; simp only [maxLen]; omega)).mono ?_; rintro e W5 ⟨rr, rfl, _, LA, K⟩; have T2 := T.link (HI.out k) (K.wide (L' := F) (fun b hb => by rw [List.mem_singleton.1 hb]; exact hl.inM 4 (by decide))) LA (fun b hb => .inl hb); clear T; have T := T2; clear T2 LA K hl fL))
              go_meet
              exact ⟨_, (by have T3 := T.same (nc' := updN (nowN E (rmS S) k) wn (mxC E (rmS S) (intoL E (rmS S) k))) (kc' := tkC E (rmS S) r k) (fun i hi j hj => by by_cases e : i = wn; (· (subst e; simp only [updN, if_true]; exact HLN.out j hj)); (· (simp only [updN, if_neg e]))) (fun i hi => rfl); rw [HLQ.out] at T3; exact T3.mono (Nat.le_refl _) (by omega))⟩
            by_cases o10 : op = 10
            · subst o10
              have HLQ := Lib.hid (show ownK (lkT E k) (wn : Int) (k : Int) = lkT E (k + 1) by rw [lkT, if_pos (by rw [← HEK.out]; rfl), ← HEK.out])
              have HLN := Lib.hid (show ∀ w : Nat, w < r → nowN E (rmS S) k wn (w : Int) = mxC E (rmS S) (intoL E (rmS S) k) (w : Int) from fun w hw => by
                have := own_now (E := E) (rm := rmS S) (r := r) (j := k) (by rw [← HEK.out]; first | exact .inl rfl | exact .inr rfl) w hw
                rw [← HEK.out] at this
                exact this)
              go_wp2_with (first
                | (refine own_load 98 0 T.own rfl rfl rfl rfl rfl Try.underlying37 rfl (by kernel_rfl) ?_; simp only [Act.put, List.setIfInBounds_toArray, List.set_cons_zero, List.set_cons_succ])
                | (go_at_call 94; obtain ⟨fL, hl⟩ := T.la; refine (own_any hl HWW.out (by have := HML.out; simp only [maxLen]; omega)).mono ?_; rintro e W5 ⟨rr, rfl, _, LA, K⟩; have T2 := T.link (HI.out k) (K.wide (L' := F) (fun b hb => by rw [List.mem_singleton.1 hb]; exact hl.inM 4 (by decide))) LA (fun b hb => .inl hb); clear T; have T := T2; clear T2 LA K hl fL))
              go_meet
              exact ⟨_, (by have T3 := T.same (nc' := updN (nowN E (rmS S) k) wn (mxC E (rmS S) (intoL E (rmS S) k))) (kc' := tkC E (rmS S) r k) (fun i hi j hj => by by_cases e : i = wn; (· (subst e; simp only [updN, if_true]; exact HLN.out j hj)); (· (simp only [updN, if_neg e]))) (fun i hi => rfl); rw [HLQ.out] at T3; exact T3.mono (Nat.le_refl _) (by omega))⟩
            by_cases o9 : op = 9
            · subst o9
              have HLQ := Lib.hid (show ownK (lkT E k) (wn : Int) (k : Int) = lkT E (k + 1) by rw [lkT, if_pos (by rw [← HEK.out]; rfl), ← HEK.out])
              have HLN := Lib.hid (show ∀ w : Nat, w < r → nowN E (rmS S) k wn (w : Int) = mxC E (rmS S) (intoL E (rmS S) k) (w : Int) from fun w hw => by
                have := own_now (E := E) (rm := rmS S) (r := r) (j := k) (by rw [← HEK.out]; first | exact .inl rfl | exact .inr rfl) w hw
                rw [← HEK.out] at this
                exact this)
              go_wp2_with (first
                | (refine own_load 98 0 T.own rfl rfl rfl rfl rfl Try.underlying37 rfl (by kernel_rfl) ?_; simp only [Act.put, List.setIfInBounds_toArray, List.set_cons_zero, List.set_cons_succ])
                | (go_at_call 94; obtain ⟨fL, hl⟩ := T.la; refine (own_any hl HWW.out (by have := HML.out; simp only [maxLen]; omega)).mono ?_; rintro e W5 ⟨rr, rfl, _, LA, K⟩; have T2 := T.link (HI.out k) (K.wide (L' := F) (fun b hb => by rw [List.mem_singleton.1 hb]; exact hl.inM 4 (by decide))) LA (fun b hb => .inl hb); clear T; have T := T2; clear T2 LA K hl fL))
              go_meet
              exact ⟨_, (by have T3 := T.same (nc' := updN (nowN E (rmS S) k) wn (mxC E (rmS S) (intoL E (rmS S) k))) (kc' := tkC E (rmS S) r k) (fun i hi j hj => by by_cases e : i = wn; (· (subst e; simp only [updN, if_true]; exact HLN.out j hj)); (· (simp only [updN, if_neg e]))) (fun i hi => rfl); rw [HLQ.out] at T3; exact T3.mono (Nat.le_refl _) (by omega))⟩
            have q8 : (op == 8) = false := by simpa using o8
            have q9 : (op == 9) = false := by simpa using o9
            have q10 : (op == 10) = false := by simpa using o10
            have q11 : (op == 11) = false := by simpa using o11
            have HQE := Lib.hid (show quietE (E k) = false by rw [← HEK.out]; simp [quietE, q8, q9, q10, q11])
            have HLQ := Lib.hid (show nextK (lkT E k) (k : Int) ⟨(wn : Int), op, a, v, sh⟩ = lkT E (k + 1) by rw [lkT, if_neg (by rw [HQE.out]; decide), ← HEK.out])
            have HIN := Lib.hid (show scL (nextR (lkT E k) (rmS S) ⟨(wn : Int), op, a, v, sh⟩) = intoL E (rmS S) k by unfold intoL; rw [← HEK.out, nextR_eq (lkT_eq E k) _ _ o8 o11])
            have HNX := Lib.hid (fun u (K : Keeps w0 u []) F fL (hl : LinksAt u F (.slice R S.nr d) p mb fL (lkT E k) mL base2) (hb : w0.heap.size ≤ base2) => (by
              have := lnextE HS.out K HRM.out (by omega) HOKk.out (HWF.out k hlt) hl (by omega) (fun i a => by have := lkT_len E i a k; omega) (fun h6 hs => by rw [(lkT_eq E k).1, (lkT_eq E k).2.1, lk_r0, lk_r1, natL_length, natL_length]; exact ok_take HOKk.out h6 hs) hb
              rwa [← HEK.out] at this : Calls Try.prog 70 #[.pointer (some ⟨p, 0, none⟩), .int .i64 (k : Int), .agg (evC ⟨(wn : Int), op, a, v, sh⟩)] u (LNextE u F (.slice R S.nr d) p mb (lkT E k) mL base2 (rmS S) k ⟨(wn : Int), op, a, v, sh⟩)))
            have HIL := Lib.hid (fun x (hx : x ∈ intoL E (rmS S) k) => intoL_lt HOKk.out hx)
            have HLL := Lib.hid (intoL_length (rm := rmS S) HOKk.out)
            have HFA := Lib.hid (fold_all (r := r) (rm := rmS S) HOKk.out HQE.out)
            obtain ⟨xsI, hxI⟩ : ∃ l, l = intoL E (rmS S) k := ⟨_, rfl⟩
            obtain ⟨nI, hnI⟩ : ∃ n, n = xsI.length := ⟨_, rfl⟩
            rw [← hxI] at HIN HIL HLL HFA
            have HXI := Lib.hid hxI
            have HNI := Lib.hid hnI
            have hnI6 : nI ≤ 40000 := by have := HLL.out; omega
            clear hxI hnI o8 o9 o10 o11
            go_wp2_with (first
              | (refine own_load 53 0 T.own rfl rfl rfl rfl rfl Try.underlying37 rfl (by kernel_rfl) ?_; simp only [Act.put, List.setIfInBounds_toArray, List.set_cons_zero, List.set_cons_succ])
              | (go_at_call 70; obtain ⟨fL, hl⟩ := T.la; refine (HNX.out _ T.own.keep F fL hl T.bs.2).mono ?_; rintro x W5 ⟨rr, F2, f2, rfl, hQ, LA, hnew, _, K⟩; rw [HIN.out] at hQ; rw [HLQ.out] at LA; obtain ⟨Av, cv, hvv, _⟩ := hQ.listL.1; rw [← HNI.out] at hvv; subst hvv; have hnw : nb wn < W2.heap.size := (by obtain ⟨f, ht⟩ := T.tk; exact (ht.rows wn hwr).lt); have T2 := T.link (HI.out k) K LA hnew; clear T; have T := T2; clear T2 LA K hl fL hnew))
            generalize hbh : W2.heap.size = bh at hQ hnw
            have HBH := Lib.hid hnw
            clear hbh hnw q8 q9 q10 q11 c15 cN
            have T := T.same (nc' := updN (nowN E (rmS S) k) wn (foldC E (rmS S) r k 0)) (kc' := tkC E (rmS S) r k) (fun i hi j hj => by by_cases e : i = wn; (· (subst e; simp only [updN, if_true]; rw [fold_zero, ← HEK.out]; rfl)); (· (simp only [updN, if_neg e]))) (fun i hi => rfl)
            go_loopg [56] nI (fun g s56 wr => ∃ q', q' ≤ nI ∧ g = nI - q' ∧ s56 = .int .i64 (q' : Int) ∧ TS w0 wr [(b15, 37, evC ⟨(wn : Int), op, a, v, sh⟩), (b4, 27, sysV S A c R d)] (Inv k) w.heap.size r gN nb mt X D F2 (updN (nowN E (rmS S) k) wn (foldC E (rmS S) r k q')) (tkC E (rmS S) r k) q (.slice R S.nr d) p mb (lkT E (k + 1)) (mL + 2) base2 ∧ HRow bh wr (.slice Av nI cv) xsI)
            case atStart => exact ⟨0, by omega, by omega, rfl, T, hQ⟩
            case round =>
              clear T hQ
              obtain ⟨q', hq', hgq, rfl, T, hQ⟩ := hrel
              have HG2 := Lib.hid hgq
              clear hgq
              by_cases hqt : q' < nI
              · have g4 : (q' : Int) < nI := by omega
                have g5 : (0 : Int) ≤ q' := by omega
                have HQL := Lib.hid (show q' < xsI.length by rw [← HNI.out]; exact hqt)
                obtain ⟨A', c', e', hx⟩ := hQ.listL.1
                obtain ⟨ad', e1, _, hc⟩ := hx (by have := HQL.out; omega)
                have e2 : Av = some ad' := by rw [← e1]; injection e'
                subst e2
                clear e1 e'
                have cq := hc q' HQL.out
                have hxm : xsI.getD q' 0 ∈ xsI := by rw [List.getD_eq_getElem?_getD, List.getElem?_eq_getElem HQL.out]; exact List.getElem_mem _
                have hx0 := HIL.out _ hxm
                have HWX := Lib.hid (wf_small (n := xsI.getD q' 0) (by omega) (by omega))
                have HFS := Lib.hid (fold_succ (E := E) (rm := rmS S) (r := r) (j := k) (q := q') (by rw [← HXI.out]; exact HQL.out))
                rw [← HXI.out] at HFS
                clear hx hc hxm
                generalize xsI.getD q' 0 = x at cq HWX HFS hx0
                obtain ⟨f, ht⟩ := T.tk
                obtain ⟨A1, q1, e1, _⟩ := (ht.kept 0 (by decide) (x)).shape
                have hR := ht.kept 0 (by decide) (x)
                obtain ⟨xs, hxs⟩ : ∃ xs, xs = tkC E (rmS S) r k 0 (x) := ⟨_, rfl⟩
                obtain ⟨n1, hn1⟩ : ∃ n, n = xs.length := ⟨_, rfl⟩
                have HXL := Lib.hid (show xs.length ≤ r by rw [hxs]; rcases tkC_len E (rmS S) r k 0 (x) with h | h <;> rw [h] <;> simp)
                rw [← hxs, ← hn1] at e1
                rw [← hxs] at hR
                have HNB := Lib.hid (show ∀ g, (Value.slice A1 n1 q1).ownBlock = some g → nb wn ≠ g from fun g hg => ht.nbk 0 (by decide) (x) g (by rw [e1]; exact hg) wn hwr)
                rw [e1] at hR
                have lk : (Instr.lookup 159 (.map (some (mt 0))) (.int .i64 (x)) false).run Try.prog wr = .ok (.slice A1 n1 q1) wr := by
                  have := look_eqV (ht.maps 0 (by decide)) 159 25 (.slice none 0 0) Try.underlying159 (zero25 _) (x) HWX.out
                  rwa [show (f 0 (x)).getD (.slice none 0 0) = .slice A1 n1 q1 from e1] at this
                have HXS := Lib.hid hxs
                clear e1 hxs hn1 ht f
                rw [← HXS.out] at HFS
                clear hx0
                go_wp2_with (first
                  | (refine own_litS 64 (.slice A1 n1 q1) T.own rfl rfl rfl rfl rfl ?_; clear lk; intro W3 gl O K hgl; replace T := T.add (HI.out k) K O hgl; replace hR := hR.keeps K (by simp); replace hQ := hQ.keeps K (by simp); clear cq; clear O K hgl; simp only [Act.put, List.setIfInBounds_toArray, List.set_cons_zero, List.set_cons_succ])
                  | (go_at_call 99; obtain ⟨f3, ht3⟩ := T.tk; obtain ⟨cur, hBv, hcv⟩ := ht3.rows wn hwr; refine (joined_any hBv hcv (T.own.get 0 rfl) (by have := hR.listL.1; exact this) (HXL.out) hr2 (fun ad n q hv hn => ?_)).mono ?_; (· (exact fun e => HNB.out ad.block (by rw [hv]; rfl) e.symm)); rintro e W4 ⟨rfl, ⟨cu2, hB2, hs2, hc2⟩, K⟩; replace hQ := hQ.keeps K (fun g hg hm => by have h1 := (hQ.own hg).1; have h2 := HBH.out; rw [List.mem_singleton.1 hm] at h1; omega); have T2 := (T.tick (HI.out k) (K.wide (L' := X) (fun b hb => by rw [List.mem_singleton.1 hb]; exact ht3.nX wn hwr)) (ht3.setNow hwr K ⟨cu2, hB2, hc2⟩) (fun b hb => .inl hb)).drop_ 1; clear T; have T := T2; clear T2 ht3 f3 hBv hcv hB2 hs2 hc2 K))
                have T := T.same (nc' := updN (nowN E (rmS S) k) wn (foldC E (rmS S) r k (q' + 1))) (kc' := tkC E (rmS S) r k) (fun i hi j hj => by by_cases e : i = wn; (· (subst e; simp only [updN, if_true]; exact HFS.out j hj)); (· (simp only [updN, if_neg e]))) (fun i hi => rfl)
                go_roundg (nI - (q' + 1))
                case measure => (have := HG2.out; omega)
                case rel => exact ⟨q' + 1, by omega, rfl, by go_num, T, hQ⟩
              · obtain rfl : nI = q' := by omega
                have T := T.same (nc' := updN (nowN E (rmS S) k) wn (mxC E (rmS S) (intoL E (rmS S) k))) (kc' := tkC E (rmS S) r k) (fun i hi j hj => by by_cases e : i = wn; (· (subst e; simp only [updN, if_true]; have := HFA.out j hj; rw [← HNI.out, HXI.out] at this; exact this)); (· (simp only [updN, if_neg e]))) (fun i hi => rfl)
                go_wp2
                go_meet
                exact ⟨_, T⟩
          case rest =>
            obtain ⟨F2, T⟩ := hcut
            obtain ⟨f, ht⟩ := T.tk
            obtain ⟨cur, hBw, hcw⟩ := ht.rows wn hwr
            obtain ⟨mx, hmx⟩ : ∃ mx, mx = mxC E (rmS S) (intoL E (rmS S) k) (wn : Int) := ⟨_, rfl⟩
            have hck := clk_eq (rm := rmS S) HOKk.out (wn : Int)
            have hcu := clk_up (rm := rmS S) HOKk.out
            rw [if_pos (by rw [← HEK.out]), show maxL ((intoL E (rmS S) k).map fun x => clk E (rmS S) x (wn : Int)) = mx from hmx.symm] at hck
            rw [← HEK.out] at hcu
            simp only at hcu
            rw [← hmx] at hcu
            have hmx1 : 0 ≤ mx ∧ mx ≤ 40000 := by
              have h1 := clk_le (E := E) (rm := rmS S) (wn : Int) k
              have h2 : 0 ≤ mx := by rw [hmx]; exact maxL_nonneg _
              omega
            have cw : wc.cell? ⟨nb wn, wn, none⟩ = some (.int .i64 mx) := by
              rw [hBw.cell, hcw.2 wn hwr]
              simp only [updN, if_true]
              rw [← hmx]
            have HCS := Lib.hid (hcw.set wn (mx + 1) hwr)
            have HCU := Lib.hid hcu
            have hsz : wn < cur.size := by have := hcw.1; omega
            have r1 : IntKind.i64.wrap (mx + 1) = mx + 1 := IntWalk.i64_in _ (by omega)
            have HNX := ht.nX wn hwr
            have HNC := Lib.hid (show updN (nowN E (rmS S) k) wn (clk E (rmS S) k) wn = clk E (rmS S) k by simp [updN])
            have HKL := Lib.hid (fun i a (hi : i < 3) => (show (tkC E (rmS S) r k i a).length ≤ r from by rcases tkC_len E (rmS S) r k i a with h | h <;> rw [h] <;> simp))
            have HWA := Lib.hid (by have := HWF.out k hlt; rwa [← HEK.out] at this : (Lit.int .i64 a).wf = true)
            have HOKA := Lib.hid (show OkAll S E (k + 1) from fun i hi => HOK.out i (by omega))
            have H14 := Lib.hid (show (⟨(wn : Int), op, a, v, sh⟩ : Ev).op = 14 → 0 < (⟨(wn : Int), op, a, v, sh⟩ : Ev).v → ∃ vN : Nat, (⟨(wn : Int), op, a, v, sh⟩ : Ev).v = (vN : Int) ∧ vN < r ∧ vN ≠ wn from fun h14 hv => by
              have h1 := ok_start HOKk.out (by rw [← HEK.out]; exact h14)
              have h2 := (ok_head HOKk.out).2.1
              have h3 := stN_r_mono E (show k + 1 ≤ m by omega)
              have h4 : (stN E (k + 1)).r = (stN E k).r + 1 := by
                show (nextE (stN E k) (E k)).r = _
                unfold nextE
                rw [← HEK.out, if_pos h14, if_neg (by omega)]
              have h5 := HR.out
              rw [← HEK.out] at h1 h2
              simp only at h1 h2 hv ⊢
              exact ⟨v.toNat, by omega, by omega, by omega⟩)
            have HCk := Lib.hid (fun u D g => HC.out k hlt u D g)
            clear hmx hck hcu hmx1 hcw
            have c15 : ∀ i : Nat, wc.cell? ⟨b15, i, none⟩ = #[Value.int .i64 (wn : Int), .int .i64 op, .int .i64 a, .int .i64 v, .bool sh][i]? := (T.own.get 0 rfl).cell
            cases hcc : cont k with
            | true =>
              rw [hcc] at HCk
              have HCC := Lib.hid hcc
              clear hcc
              go_wp2_with (first
                | (refine wpList_store_blk (nb wn) wn 3 cur (.int .i64 (mx + 1)) rfl rfl rfl rfl rfl hBw hsz rfl rfl (by kernel_rfl) ?_; intro u K B; have T2 := (T.tick (HI.out k) (K.wide (L' := X) (fun b hb => by rw [List.mem_singleton.1 hb]; exact HNX)) (ht.setNow hwr K ⟨_, B, HCS.out⟩) (fun b hb => .inl hb)).same (nc' := updN (nowN E (rmS S) k) wn (clk E (rmS S) k)) (kc' := tkC E (rmS S) r k) (fun i hi j hj => by by_cases e : i = wn; (· (subst e; simp only [updN, if_true]; exact congrFun HCU.out _)); (· (simp only [updN, if_neg e]))) (fun i hi => rfl); clear T ht hBw cw c15 K B r1; have T := T2; clear T2)
                | (refine own_load 107 0 T.own rfl rfl rfl rfl rfl Try.underlying37 rfl (by kernel_rfl) ?_; simp only [Act.put, List.setIfInBounds_toArray, List.set_cons_zero, List.set_cons_succ])
                | (go_at_call 100; obtain ⟨f2, ht2⟩ := T.tk; refine (note_any ⟨(wn : Int), op, a, v, sh⟩ ht2 hwr HNC.out hr2 (by omega) HKL.out HWA.out (by omega) H14.out).mono ?_; rintro e W6 ⟨rfl, ⟨f6, X6, hT6, hX6⟩, K⟩; have T2 := (T.tick (HI.out k) K hT6 hX6).same (nc' := nowN E (rmS S) (k + 1)) (kc' := tkC E (rmS S) r (k + 1)) (by rw [HEK.out]; exact note_now HOKA.out HWN.out (fun i hi hi2 c hc => by simp only [updN, if_neg hi]) (fun c hc => by simp only [updN, if_true])) (by rw [HEK.out]; exact note_kc); clear T ht2 hT6 hX6 K; have T := T2; clear T2)
                | (have hself : ClkAt _ (nb wn) r (clk E (rmS S) k) := (by obtain ⟨f2, ht2⟩ := T.tk; have := ht2.rows wn hwr; unfold nowN at this; rw [← HWN.out, now_self] at this; exact this); have hnd : nb wn ∉ D := (fun hm => T.dX _ hm (by obtain ⟨f2, ht2⟩ := T.tk; exact ht2.nX wn hwr)); refine wpList_call_fn (.int .i64 (k : Int)) (.slice (some ⟨nb wn, 0, none⟩) r r) rfl rfl rfl rfl rfl HFN.out ?_; refine (HCk.out _ D (nb wn) T.iv hnd hself).mono ?_; rintro e W7 ⟨rfl, ⟨D', hv', hD', hlt'⟩, K⟩; refine ⟨_, rfl, ?_⟩; simp only [Act.put, List.setIfInBounds_toArray, List.set_cons_zero, List.set_cons_succ]; have T2 := T.client K hv' hD' hlt'; clear T hself hnd hv' hD' hlt' K; have T := T2; clear T2))
              go_roundg (m - (k + 1))
              case measure => (have := HG.out; omega)
              case rel => exact ⟨k + 1, _, _, _, _, _, by omega, rfl, by go_num, T.drop_ 1, by omega, by omega, fun i hi => by
                by_cases e : i = k
                · rw [e]; exact HCC.out
                · exact HCT.out i (by omega)⟩
            | false =>
              rw [hcc] at HCk
              have HCC := Lib.hid hcc
              clear hcc
              go_wp2_with (first
                | (refine wpList_store_blk (nb wn) wn 3 cur (.int .i64 (mx + 1)) rfl rfl rfl rfl rfl hBw hsz rfl rfl (by kernel_rfl) ?_; intro u K B; have T2 := (T.tick (HI.out k) (K.wide (L' := X) (fun b hb => by rw [List.mem_singleton.1 hb]; exact HNX)) (ht.setNow hwr K ⟨_, B, HCS.out⟩) (fun b hb => .inl hb)).same (nc' := updN (nowN E (rmS S) k) wn (clk E (rmS S) k)) (kc' := tkC E (rmS S) r k) (fun i hi j hj => by by_cases e : i = wn; (· (subst e; simp only [updN, if_true]; exact congrFun HCU.out _)); (· (simp only [updN, if_neg e]))) (fun i hi => rfl); clear T ht hBw cw c15 K B r1; have T := T2; clear T2)
                | (refine own_load 107 0 T.own rfl rfl rfl rfl rfl Try.underlying37 rfl (by kernel_rfl) ?_; simp only [Act.put, List.setIfInBounds_toArray, List.set_cons_zero, List.set_cons_succ])
                | (go_at_call 100; obtain ⟨f2, ht2⟩ := T.tk; refine (note_any ⟨(wn : Int), op, a, v, sh⟩ ht2 hwr HNC.out hr2 (by omega) HKL.out HWA.out (by omega) H14.out).mono ?_; rintro e W6 ⟨rfl, ⟨f6, X6, hT6, hX6⟩, K⟩; have T2 := (T.tick (HI.out k) K hT6 hX6).same (nc' := nowN E (rmS S) (k + 1)) (kc' := tkC E (rmS S) r (k + 1)) (by rw [HEK.out]; exact note_now HOKA.out HWN.out (fun i hi hi2 c hc => by simp only [updN, if_neg hi]) (fun c hc => by simp only [updN, if_true])) (by rw [HEK.out]; exact note_kc); clear T ht2 hT6 hX6 K; have T := T2; clear T2)
                | (have hself : ClkAt _ (nb wn) r (clk E (rmS S) k) := (by obtain ⟨f2, ht2⟩ := T.tk; have := ht2.rows wn hwr; unfold nowN at this; rw [← HWN.out, now_self] at this; exact this); have hnd : nb wn ∉ D := (fun hm => T.dX _ hm (by obtain ⟨f2, ht2⟩ := T.tk; exact ht2.nX wn hwr)); refine wpList_call_fn (.int .i64 (k : Int)) (.slice (some ⟨nb wn, 0, none⟩) r r) rfl rfl rfl rfl rfl HFN.out ?_; refine (HCk.out _ D (nb wn) T.iv hnd hself).mono ?_; rintro e W7 ⟨rfl, ⟨D', hv', hD', hlt'⟩, K⟩; refine ⟨_, rfl, ?_⟩; simp only [Act.put, List.setIfInBounds_toArray, List.set_cons_zero, List.set_cons_succ]; have T2 := T.client K hv' hD' hlt'; clear T hself hnd hv' hD' hlt' K; have T := T2; clear T2))
              go_returns
              exact ⟨rfl, T.own.keep, k + 1, _, T.iv, .inr ⟨k, rfl, hlt, HCC.out, HCT.out⟩⟩
        · obtain rfl : m = k := by omega
          go_wp2
          go_returns
          exact ⟨rfl, T.own.keep, m, D, T.iv, .inl ⟨rfl, HCT.out⟩⟩
end
end Go.Proofs.Ytakmcpadkanggaa
namespace Go.Proofs.Ytakmcpadkanggaa
open Go.RowKit Go.Maps Go.Deep
theorem beq_nn {a b : Nat} (h : a ≠ b) : ((a : Int) == (b : Int)) = false := by rw [beq_eq_false_iff_ne]; omega
theorem fn101 : FnOk 101 := fun args w => by go_simp
theorem fn75 : FnOk 75 := fun args w => by go_simp
/-- The numbers that before's closure looks at. -/
structure BfAt (w0 u : World) (B : Option Addr) (n cb i j : Nat) (b8 b6 b11 b9 b12 : Nat) (own : Int) (yes : Bool) : Prop where
  keep : Keeps w0 u []
  h8 : Blk u b8 3 #[.int .i64 (i : Int)]
  h6 : Blk u b6 31 #[.slice B n cb]
  h11 : Blk u b11 3 #[.int .i64 own]
  h9 : Blk u b9 3 #[.int .i64 (j : Int)]
  h12 : Blk u b12 4 #[.bool yes]
  nd : b8 ≠ b11 ∧ b9 ≠ b11
  lt : w0.heap.size ≤ b11 ∧ w0.heap.size ≤ b12
section
variable {w0 u : World} {E : Nat → Ev} {B : Option Addr} {n cb i j r k g wi : Nat} {b8 b6 b11 b9 b12 : Nat} {own : Int} {yes : Bool} {c : Int → Int}
def BPost (w0 : World) (B : Option Addr) (n cb i j b8 b6 b11 b9 b12 : Nat) (own : Int) (yes : Bool) (u : World) (e : Ending) (u' : World) : Prop :=
  e = .returned (.bool true) ∧ BfAt w0 u' B n cb i j b8 b6 b11 b9 b12 own yes ∧ Keeps u u' [b11, b12]
set_option maxRecDepth 100000 in
set_option maxHeartbeats 1000000 in
theorem bclo_o (hA : BfAt w0 u B n cb i j b8 b6 b11 b9 b12 own yes) (hE : EvsAt w0 B n E) (hc : ClkAt u g r c) (hi : i < n) (hw : (E i).who = (wi : Int)) (hwr : wi < r) (hg : g ≠ b11 ∧ g ≠ b12) (hj : j ≤ 40000) (hki : k ≠ i) (hkj : k ≠ j) :
    Calls Try.prog 101 #[.int .i64 (k : Int), .slice (some ⟨g, 0, none⟩) r r, .pointer (some ⟨b8, 0, none⟩), .pointer (some ⟨b6, 0, none⟩), .pointer (some ⟨b11, 0, none⟩), .pointer (some ⟨b9, 0, none⟩), .pointer (some ⟨b12, 0, none⟩)] u (BPost w0 B n cb i j b8 b6 b11 b9 b12 own yes u) := by
  obtain ⟨ad, rfl, hce⟩ := EvsAt.row (u := w0) hE hi
  have HCE := Lib.hid hce
  obtain ⟨cur, hB, hcu⟩ := hc
  have hcc := hcu.2 wi hwr
  have g1 : (i : Int) < n := by omega
  have g0 : (0 : Int) ≤ i := by omega
  have g2 : (wi : Int) < r := by omega
  have g3 : (0 : Int) ≤ wi := by omega
  have HA := Lib.hid hA
  have HB := Lib.hid hB
  have HW := Lib.hid hw
  have c8 := hA.h8.cell 0
  have c6 := hA.h6.cell 0
  have c9 := hA.h9.cell 0
  have cE : u.cell? (ad.add (i * 5)) = some (.int .i64 (wi : Int)) := by
    have := (show u.cell? (ad.add (i * 5)) = some (.int .i64 (E i).who) from hce [] u hA.keep (by simp) 0 (by show 0 < 5; omega))
    rw [hw] at this
    exact this
  have cg : u.cell? ⟨g, wi, none⟩ = some (.int .i64 (c (wi : Int))) := (hB.cell wi).trans hcc
  have q1 : ((k : Int) == (i : Int)) = false := beq_nn (by omega)
  have q2 : ((k : Int) == (j : Int)) = false := beq_nn (by omega)
  have q3 : (k == i) = false := by simpa using hki
  have q4 : (k == j) = false := by simpa using hkj
  clear hA hB hcu hcc hce hw hki hkj hE
  go_enter Try.func101, Try.ntmps101
  go_wp2
  go_ret
  exact ⟨rfl, HA.out, Keeps.refl _ _⟩
set_option maxRecDepth 100000 in
set_option maxHeartbeats 1000000 in
theorem bclo_i (hA : BfAt w0 u B n cb i j b8 b6 b11 b9 b12 own yes) (hE : EvsAt w0 B n E) (hc : ClkAt u g r c) (hi : i < n) (hw : (E i).who = (wi : Int)) (hwr : wi < r) (hg : g ≠ b11 ∧ g ≠ b12) (hj : j ≤ 40000) (hij : i ≠ j) :
    Calls Try.prog 101 #[.int .i64 (i : Int), .slice (some ⟨g, 0, none⟩) r r, .pointer (some ⟨b8, 0, none⟩), .pointer (some ⟨b6, 0, none⟩), .pointer (some ⟨b11, 0, none⟩), .pointer (some ⟨b9, 0, none⟩), .pointer (some ⟨b12, 0, none⟩)] u (BPost w0 B n cb i j b8 b6 b11 b9 b12 (c (wi : Int)) yes u) := by
  obtain ⟨ad, rfl, hce⟩ := EvsAt.row (u := w0) hE hi
  have HCE := Lib.hid hce
  obtain ⟨cur, hB, hcu⟩ := hc
  have hcc := hcu.2 wi hwr
  have g1 : (i : Int) < n := by omega
  have g0 : (0 : Int) ≤ i := by omega
  have g2 : (wi : Int) < r := by omega
  have g3 : (0 : Int) ≤ wi := by omega
  have HA := Lib.hid hA
  have HB := Lib.hid hB
  have HW := Lib.hid hw
  have c8 := hA.h8.cell 0
  have c6 := hA.h6.cell 0
  have c9 := hA.h9.cell 0
  have cE : u.cell? (ad.add (i * 5)) = some (.int .i64 (wi : Int)) := by
    have := (show u.cell? (ad.add (i * 5)) = some (.int .i64 (E i).who) from hce [] u hA.keep (by simp) 0 (by show 0 < 5; omega))
    rw [hw] at this
    exact this
  have cg : u.cell? ⟨g, wi, none⟩ = some (.int .i64 (c (wi : Int))) := (hB.cell wi).trans hcc
  have q2 : ((i : Int) == (j : Int)) = false := beq_nn (by omega)
  have q4 : (i == j) = false := by simpa using hij
  generalize c (wi : Int) = x at cg ⊢
  clear hA hB hcu hcc hce hw hij hE
  go_enter Try.func101, Try.ntmps101
  go_wp2_with (refine wpList_store_blk b11 0 3 #[.int .i64 own] (.int .i64 x) rfl rfl rfl rfl rfl HA.out.h11 (by simp) rfl rfl (by kernel_rfl) ?_; intro u2 K Bn; have c9' : u2.cell? ⟨b9, 0, none⟩ = some (.int .i64 (j : Int)) := (HA.out.h9.keeps K (by simpa using HA.out.nd.2)).cell 0; have HK := Lib.hid K; have HBN := Lib.hid (show Blk u2 b11 3 #[.int .i64 x] from Bn); clear K Bn)
  go_ret
  exact ⟨rfl, ⟨HA.out.keep.trans HK.out (fun b hb hlt => by rw [List.mem_singleton.1 hb] at hlt; have := HA.out.lt.1; omega), HA.out.h8.keeps HK.out (by simpa using HA.out.nd.1), HA.out.h6.keeps HK.out (by simpa using blk_ne HA.out.h6 HA.out.h11 (by decide)), HBN.out, HA.out.h9.keeps HK.out (by simpa using HA.out.nd.2), HA.out.h12.keeps HK.out (by simpa using blk_ne HA.out.h12 HA.out.h11 (by decide)), HA.out.nd, HA.out.lt⟩, HK.out.wide (by simp)⟩
set_option maxRecDepth 100000 in
set_option maxHeartbeats 1000000 in
theorem bclo_j (hA : BfAt w0 u B n cb i j b8 b6 b11 b9 b12 own yes) (hE : EvsAt w0 B n E) (hc : ClkAt u g r c) (hi : i < n) (hw : (E i).who = (wi : Int)) (hwr : wi < r) (hg : g ≠ b11 ∧ g ≠ b12) (hj : j ≤ 40000) (hij : i ≠ j) :
    Calls Try.prog 101 #[.int .i64 (j : Int), .slice (some ⟨g, 0, none⟩) r r, .pointer (some ⟨b8, 0, none⟩), .pointer (some ⟨b6, 0, none⟩), .pointer (some ⟨b11, 0, none⟩), .pointer (some ⟨b9, 0, none⟩), .pointer (some ⟨b12, 0, none⟩)] u (BPost w0 B n cb i j b8 b6 b11 b9 b12 own (decide (own ≤ c (wi : Int))) u) := by
  obtain ⟨ad, rfl, hce⟩ := EvsAt.row (u := w0) hE hi
  have HCE := Lib.hid hce
  obtain ⟨cur, hB, hcu⟩ := hc
  have hcc := hcu.2 wi hwr
  have g1 : (i : Int) < n := by omega
  have g0 : (0 : Int) ≤ i := by omega
  have g2 : (wi : Int) < r := by omega
  have g3 : (0 : Int) ≤ wi := by omega
  have HA := Lib.hid hA
  have HB := Lib.hid hB
  have HW := Lib.hid hw
  have c8 := hA.h8.cell 0
  have c6 := hA.h6.cell 0
  have c9 := hA.h9.cell 0
  have cE : u.cell? (ad.add (i * 5)) = some (.int .i64 (wi : Int)) := by
    have := (show u.cell? (ad.add (i * 5)) = some (.int .i64 (E i).who) from hce [] u hA.keep (by simp) 0 (by show 0 < 5; omega))
    rw [hw] at this
    exact this
  have cg : u.cell? ⟨g, wi, none⟩ = some (.int .i64 (c (wi : Int))) := (hB.cell wi).trans hcc
  have q1 : ((j : Int) == (i : Int)) = false := beq_nn (by omega)
  have q3 : (j == i) = false := by simpa using Ne.symm hij
  generalize hx : c (wi : Int) = x at cg ⊢
  have HCG := Lib.hid (fun q : Later u => (((HB.out.keeps q.2 (by simp)).cell wi).trans (hcc.trans (by rw [hx])) : q.1.cell? ⟨g, wi, none⟩ = some (.int .i64 x)))
  have HCE2 := Lib.hid (fun q : Later u => (by have := (show q.1.cell? (ad.add (i * 5)) = some (.int .i64 (E i).who) from HCE.out [] q.1 (HA.out.keep.trans q.2 (by simp)) (by simp) 0 (by show 0 < 5; omega)); rw [HW.out] at this; exact this : q.1.cell? (ad.add (i * 5)) = some (.int .i64 (wi : Int))))
  clear hA hB hcu hcc hce hw hij hE hx
  go_enter Try.func101, Try.ntmps101
  go_wp2
  clear c8 c6 c9 cE cg
  have c8 : ∀ q : Later u, q.1.cell? ⟨b8, 0, none⟩ = some (.int .i64 (i : Int)) := fun q => (HA.out.h8.keeps q.2 (by simp)).cell 0
  have c6 : ∀ q : Later u, q.1.cell? ⟨b6, 0, none⟩ = some (.slice (some ad) n cb) := fun q => (HA.out.h6.keeps q.2 (by simp)).cell 0
  have c11 : ∀ q : Later u, q.1.cell? ⟨b11, 0, none⟩ = some (.int .i64 own) := fun q => (HA.out.h11.keeps q.2 (by simp)).cell 0
  have cE := HCE2.out
  have cg := HCG.out
  refine wp_quiet_tail_later 10 (by kernel_rfl) (by kernel_rfl) ?_
  simp only [List.take, List.drop]
  repeat (first
    | go_big_quiet_skip
    | go_big_quiet_step (fail))
  refine wpQuiet_nil ?_
  intro _ hw
  obtain ⟨p', rfl⟩ := hw
  have HKQ := Lib.hid p'.2
  have H12 := Lib.hid (HA.out.h12.keeps p'.2 (by simp))
  clear c8 c6 c11 cE cg
  generalize p'.1 = W at HKQ H12 ⊢
  refine wpList_store_blk b12 0 4 #[.bool yes] (.bool (decide (own ≤ x))) rfl rfl rfl rfl rfl H12.out (by simp) rfl rfl (by kernel_rfl) ?_
  intro u2 K Bn
  have HK := Lib.hid (HKQ.out.wide (L' := [b12]) (by simp) |>.trans K (fun b hb _ => hb))
  have HBN := Lib.hid (show Blk u2 b12 4 #[.bool (decide (own ≤ x))] from Bn)
  clear K Bn
  go_wp2
  go_ret
  exact ⟨rfl, ⟨HA.out.keep.trans HK.out (fun b hb hlt => by rw [List.mem_singleton.1 hb] at hlt; have := HA.out.lt.2; omega), HA.out.h8.keeps HK.out (by simpa using blk_ne HA.out.h8 HA.out.h12 (by decide)), HA.out.h6.keeps HK.out (by simpa using blk_ne HA.out.h6 HA.out.h12 (by decide)), HA.out.h11.keeps HK.out (by simpa using blk_ne HA.out.h11 HA.out.h12 (by decide)), HA.out.h9.keeps HK.out (by simpa using blk_ne HA.out.h9 HA.out.h12 (by decide)), HBN.out, HA.out.nd, HA.out.lt⟩, HK.out.wide (by simp)⟩
end
end Go.Proofs.Ytakmcpadkanggaa
namespace Go.Proofs.Ytakmcpadkanggaa
open Go.RowKit Go.Maps Go.Deep
/-- Is event i before event j, by the clocks? -/
def befB (E : Nat → Ev) (rm : Int → Int) (i j : Nat) : Bool := decide (i < j) && decide (clk E rm i (E i).who ≤ clk E rm j (E i).who)
theorem blk_add {W : World} {g t : Nat} {cs : Array Value} (h : Blk W g t cs) (j : Nat) : W.cell? ((⟨g, 0, none⟩ : Addr).add j) = cs[j]? := by
  have e : (⟨g, 0, none⟩ : Addr).add j = ⟨g, j, none⟩ := by
    by_cases h : j = 0
    · subst h; rfl
    · simp [Addr.add, h]
  rw [e, h.cell]
theorem evs_le {w : World} {B : Option Addr} {n m : Nat} {E : Nat → Ev} (h : EvsAt w B n E) (hm : m ≤ n) : EvsAt w B m E := fun h0 => by
  obtain ⟨ad, e, hb, hc⟩ := h (by omega)
  exact ⟨ad, e, hb, fun i j hi hj => hc i j (by omega) hj⟩
theorem own_at {w W : World} {L : List Ent} {g : Nat} {t : TypeId} {cs : Array Value} (h : Own w W [] L) (k : Nat) (hk : L[k]? = some (g, t, cs)) : w.heap.size ≤ g ∧ g < W.heap.size :=
  ⟨Nat.le_of_not_lt fun hl => absurd (h.new _ (List.mem_of_getElem? hk) hl) (by simp), h.lt k hk⟩
def ownK9 (E : Nat → Ev) (rm : Int → Int) (i k : Nat) : Int := if i < k then clk E rm i (E i).who else 0
def yesK9 (E : Nat → Ev) (rm : Int → Int) (i j k : Nat) : Bool := if j < k then decide (clk E rm i (E i).who ≤ clk E rm j (E i).who) else false
section
variable {w0 w : World} {S : Sys} {A : Option Addr} {c : Nat} {R : Option Addr} {d n r : Nat} {E : Nat → Ev} {B : Option Addr} {cb i j : Nat}
def BfInv (w0 : World) (E : Nat → Ev) (rm : Int → Int) (B : Option Addr) (n cb i j b8 b6 b11 b9 b12 : Nat) (k : Nat) (u : World) (D : List Nat) : Prop :=
  D = [b8, b6, b11, b9, b12] ∧ BfAt w0 u B n cb i j b8 b6 b11 b9 b12 (ownK9 E rm i k) (yesK9 E rm i j k)
theorem bfInv_ok {rm : Int → Int} {b8 b6 b11 b9 b12 k : Nat} : IvOk w0 (BfInv w0 E rm B n cb i j b8 b6 b11 b9 b12 k) := by
  rintro W u D S ⟨rfl, h⟩ K hS
  have ns : ∀ b, b ∈ [b8, b6, b11, b9, b12] → b ∉ S := fun b hb hm => (hS b hm).1 hb
  exact ⟨rfl, h.keep.trans K (fun b hb hlt => by have := (hS b hb).2; omega), h.h8.keeps K (ns _ (by simp)), h.h6.keeps K (ns _ (by simp)), h.h11.keeps K (ns _ (by simp)), h.h9.keeps K (ns _ (by simp)), h.h12.keeps K (ns _ (by simp)), h.nd, h.lt⟩
theorem bf_see {rm : Int → Int} {b8 b6 b11 b9 b12 k wi : Nat} (hE : EvsAt w0 B n E) (hi : i < n) (hij : i < j) (hj : j ≤ 40000) (hw : (E i).who = (wi : Int)) (hwr : wi < r) (hk : k < j + 1) (u : World) (D : List Nat) (g : Nat) (hI : BfInv w0 E rm B n cb i j b8 b6 b11 b9 b12 k u D) (hg : g ∉ D) (hc : ClkAt u g r (clk E rm k)) :
    Calls Try.prog 101 (#[.int .i64 (k : Int), .slice (some ⟨g, 0, none⟩) r r] ++ #[.pointer (some ⟨b8, 0, none⟩), .pointer (some ⟨b6, 0, none⟩), .pointer (some ⟨b11, 0, none⟩), .pointer (some ⟨b9, 0, none⟩), .pointer (some ⟨b12, 0, none⟩)]) u (SeePost (BfInv w0 E rm B n cb i j b8 b6 b11 b9 b12 (k + 1)) true u D) := by
  obtain ⟨rfl, hA⟩ := hI
  have hgn : g ≠ b11 ∧ g ≠ b12 := ⟨fun e => hg (by simp [e]), fun e => hg (by simp [e])⟩
  have fin : ∀ (own' : Int) (yes' : Bool), own' = ownK9 E rm i (k + 1) → yes' = yesK9 E rm i j (k + 1) → ∀ e u', BPost w0 B n cb i j b8 b6 b11 b9 b12 own' yes' u e u' → SeePost (BfInv w0 E rm B n cb i j b8 b6 b11 b9 b12 (k + 1)) true u [b8, b6, b11, b9, b12] e u' := by
    rintro own' yes' rfl rfl e u' ⟨rfl, h, K⟩
    refine ⟨rfl, ⟨_, ⟨rfl, h⟩, fun q hq => .inl hq, fun q hq => ?_⟩, K.wide (fun b hb => by simp only [List.mem_cons, List.not_mem_nil, or_false] at hb ⊢; rcases hb with rfl | rfl <;> simp)⟩
    simp only [List.mem_cons, List.not_mem_nil, or_false] at hq
    rcases hq with rfl | rfl | rfl | rfl | rfl
    · exact h.h8.lt
    · exact h.h6.lt
    · exact h.h11.lt
    · exact h.h9.lt
    · exact h.h12.lt
  by_cases ei : k = i
  · subst ei
    exact (bclo_i hA hE hc hi hw hwr hgn hj (by omega)).mono (fin _ _ (by unfold ownK9; rw [if_pos (by omega), ← hw]) (by unfold yesK9; rw [if_neg (by omega), if_neg (by omega)]))
  · by_cases ej : k = j
    · subst ej
      refine (bclo_j hA hE hc hi hw hwr hgn hj (by omega)).mono (fin _ _ ?_ ?_)
      · unfold ownK9; rw [if_pos (by omega), if_pos (by omega)]
      · unfold ownK9 yesK9; rw [if_pos (by omega), if_pos (by omega), ← hw]
    · refine (bclo_o hA hE hc hi hw hwr hgn hj ei ej).mono (fin _ _ ?_ ?_)
      · unfold ownK9
        by_cases h : i < k
        · rw [if_pos h, if_pos (by omega)]
        · rw [if_neg h, if_neg (by omega)]
      · unfold yesK9; rw [if_neg (by omega), if_neg (by omega)]
set_option maxRecDepth 100000 in
set_option maxHeartbeats 2000000 in
theorem before_any (hS : SysIn w S A c R d) (hE : EvsAt w B n E) (hrm : ∀ q, q < S.nr → 1 ≤ S.rm q ∧ S.rm q ≤ 1000000) (hok : OkAll S E n) (hn : n ≤ 40000) (hwf : ∀ i, i < n → (Lit.int .i64 (E i).a).wf = true) (hr : (stN E n).r ≤ r) (hr2 : r ≤ 1000000) (hi : i < n) (hj : j < n) (hcb : n ≤ cb) :
    Calls Try.prog 79 #[.agg (sysV S A c R d), .slice B n cb, .int .i64 (r : Int), .int .i64 (i : Int), .int .i64 (j : Int)] w fun e u => e = .returned (.bool (befB E (rmS S) i j)) ∧ Keeps w u [] := by
  have O := Own.start w []
  by_cases hij : i < j
  · obtain ⟨ad, rfl, _⟩ := hE (by omega)
    have HF := Lib.hid (show befB E (rmS S) i j = decide (clk E (rmS S) i (E i).who ≤ clk E (rmS S) j (E i).who) by unfold befB; rw [decide_eq_true hij]; rfl)
    obtain ⟨hw1, hw2, _⟩ := ok_head (hok i hi)
    obtain ⟨wi, hwi⟩ : ∃ wi : Nat, (E i).who = (wi : Int) := ⟨(E i).who.toNat, by omega⟩
    have hwr : wi < r := by
      have := stN_r_mono E (show i ≤ n by omega)
      omega
    have HT := Lib.hid (fun W (K : Keeps w W []) b8 b6 b11 b9 b12 (h0 : BfInv w E (rmS S) (some ad) n cb i j b8 b6 b11 b9 b12 0 W [b8, b6, b11, b9, b12]) (hlt : ∀ b ∈ [b8, b6, b11, b9, b12], w.heap.size ≤ b ∧ b < W.heap.size) => ticks_any (cb := cb) (m := j + 1) (r := r) 101 #[.pointer (some ⟨b8, 0, none⟩), .pointer (some ⟨b6, 0, none⟩), .pointer (some ⟨b11, 0, none⟩), .pointer (some ⟨b9, 0, none⟩), .pointer (some ⟨b12, 0, none⟩)] (BfInv w E (rmS S) (some ad) n cb i j b8 b6 b11 b9 b12) (fun _ => true) [b8, b6, b11, b9, b12] K hS (evs_le hE (by omega)) hrm (fun k hk => hok k (by omega)) (by omega) (fun k hk => hwf k (by omega)) (by have := stN_r_mono E (show j + 1 ≤ n by omega); omega) hr2 fn101 (fun k => bfInv_ok) h0 hlt (fun k hk u D g h1 h2 h3 => bf_see hE hi hij (by omega) hwi hwr hk u D g h1 h2 h3))
    have g1 : decide (j ≤ i) = false := decide_eq_false (by omega)
    have g2 : (n : Int) ≤ cb := by omega
    have g3 : ((j : Nat) : Int) + 1 ≤ cb := by omega
    have g4 : ¬ (j : Int) ≤ (i : Int) := by omega
    have HIJ := Lib.hid hij
    have hj6 : j ≤ 40000 := by omega
    clear hS hE hrm hok hwf hr hi hj hcb hij hw1 hw2 hwi hwr
    go_enter Try.func79, Try.ntmps79
    go_wp2_with (first
      | (refine own_box 5 (sysV S A c R d) O rfl rfl rfl rfl ?_; clear O; intro W b5 O; simp only [Act.put, List.setIfInBounds_toArray, List.set_cons_zero, List.set_cons_succ])
      | (refine own_box1 6 (.slice (some ad) n cb) O rfl rfl rfl rfl rfl ?_; clear O; intro W b6 O; simp only [Act.put, List.setIfInBounds_toArray, List.set_cons_zero, List.set_cons_succ])
      | (refine own_box1 8 (.int .i64 (i : Int)) O rfl rfl rfl rfl rfl ?_; clear O; intro W b8 O; simp only [Act.put, List.setIfInBounds_toArray, List.set_cons_zero, List.set_cons_succ])
      | (refine own_box1 9 (.int .i64 (j : Int)) O rfl rfl rfl rfl rfl ?_; clear O; intro W b9 O; simp only [Act.put, List.setIfInBounds_toArray, List.set_cons_zero, List.set_cons_succ]; have c8 := (O.get 1 rfl).cell 0; have c9 := (O.get 0 rfl).cell 0)
      | (refine own_alloc1 11 (.int .i64 0) O rfl rfl rfl (fun _ => by kernel_rfl) rfl ?_; clear O c8 c9; intro W b11 O; simp only [Act.put, List.setIfInBounds_toArray, List.set_cons_zero, List.set_cons_succ])
      | (refine own_alloc1 12 (.bool false) O rfl rfl rfl (fun _ => by kernel_rfl) rfl ?_; clear O; intro W b12 O; simp only [Act.put, List.setIfInBounds_toArray, List.set_cons_zero, List.set_cons_succ])
      | (refine own_store 1 0 (.int .i64 0) (.tmp 11) (.const (.int .i64 0)) O rfl rfl rfl rfl rfl rfl (by decide) rfl rfl (by kernel_rfl) rfl ?_; clear O; intro W O; simp only [List.set_cons_zero, List.set_cons_succ] at O)
      | (refine own_store 0 0 (.bool false) (.tmp 12) (.const (.bool false)) O rfl rfl rfl rfl rfl rfl (by decide) rfl rfl (by kernel_rfl) rfl ?_; clear O; intro W O; simp only [List.set_cons_zero, List.set_cons_succ] at O))
    have H12 := O.get 0 rfl
    have H11 := O.get 1 rfl
    have H9 := O.get 2 rfl
    have H8 := O.get 3 rfl
    have H6 := O.get 4 rfl
    have H5 := O.get 5 rfl
    have HI := Lib.hid (show BfInv w E (rmS S) (some ad) n cb i j b8 b6 b11 b9 b12 0 W [b8, b6, b11, b9, b12] from ⟨rfl, O.keep, H8, H6, by unfold ownK9; rw [if_neg (Nat.not_lt_zero i)]; exact H11, H9, by unfold yesK9; rw [if_neg (Nat.not_lt_zero j)]; exact H12, ⟨O.apart (i := 3) (j := 1) rfl rfl (by decide), O.apart (i := 2) (j := 1) rfl rfl (by decide)⟩, ⟨(own_at O 1 rfl).1, (own_at O 0 rfl).1⟩⟩)
    have HL := Lib.hid (show ∀ b ∈ [b8, b6, b11, b9, b12], w.heap.size ≤ b ∧ b < W.heap.size by
      intro b hb
      simp only [List.mem_cons, List.not_mem_nil, or_false] at hb
      rcases hb with h | h | h | h | h
      · rw [h]; exact own_at O 3 rfl
      · rw [h]; exact own_at O 4 rfl
      · rw [h]; exact own_at O 1 rfl
      · rw [h]; exact own_at O 2 rfl
      · rw [h]; exact own_at O 0 rfl)
    have HK := Lib.hid O.keep
    have c5 : ∀ u, (∃ p : Later W, u = p.1) → ∀ k, k < (sysV S A c R d).size → u.cell? ((⟨b5, 0, none⟩ : Addr).add k) = (sysV S A c R d)[k]? := fun u hu k _ => by
      obtain ⟨p, rfl⟩ := hu
      exact blk_add (H5.keeps p.2 (by simp)) k
    have c6 : ∀ q : Later W, q.1.cell? ⟨b6, 0, none⟩ = some (.slice (some ad) n cb) := fun q => (H6.keeps q.2 (by simp)).cell 0
    have c9 : ∀ q : Later W, q.1.cell? ⟨b9, 0, none⟩ = some (.int .i64 (j : Int)) := fun q => (H9.keeps q.2 (by simp)).cell 0
    clear H12 H11 H9 H8 H6 H5
    refine wp_quiet_tail_later 7 (by kernel_rfl) (by kernel_rfl) ?_
    simp only [List.take, List.drop]
    repeat (first
      | go_big_quiet_skip
      | (refine wpQuiet_load_at (cs := sysV S A c R d) 16 rfl rfl rfl rfl c5 Try.underlying27 rfl (by kernel_rfl) ?_; simp only [Act.put, List.setIfInBounds_toArray, List.set_cons_zero, List.set_cons_succ])
      | go_big_quiet_step (fail))
    refine wpQuiet_nil ?_
    intro _ hw
    obtain ⟨p', rfl⟩ := hw
    replace O := O.keeps p'.2
    replace HI := Lib.hid (bfInv_ok _ _ _ [] HI.out p'.2 (fun b hb => absurd hb (by simp)))
    replace HL := Lib.hid (fun b hb => And.intro (HL.out b hb).1 (Nat.lt_of_lt_of_le (HL.out b hb).2 p'.2.size))
    clear HK c5 c6 c9
    generalize p'.1 = W2 at O HI HL ⊢
    go_wp2_with (go_at_call 72; refine (HT.out _ O.keep b8 b6 b11 b9 b12 HI.out HL.out).mono ?_; rintro e W3 ⟨rfl, K3, k, D, hI, hk⟩; have hkj : k = j + 1 := (hk.elim (fun h => h.1) (fun h => absurd (Exists.choose_spec h).2.2.1 (by simp))); subst hkj; clear hk; obtain ⟨rfl, hB⟩ := hI; have HK := Lib.hid hB.keep; have c12 := hB.h12.cell 0; clear hB)
    go_ret
    refine ⟨?_, HK.out⟩
    rw [HF.out]
    unfold yesK9
    rw [if_pos (by omega)]
    rfl
  · have HF := Lib.hid (show befB E (rmS S) i j = false by unfold befB; rw [decide_eq_false hij]; rfl)
    have g1 : decide (j ≤ i) = true := decide_eq_true (by omega)
    have g4 : (j : Int) ≤ (i : Int) := by omega
    clear hS hE hrm hok hwf hij
    go_enter Try.func79, Try.ntmps79
    go_wp2_with (first
      | (refine own_box 5 (sysV S A c R d) O rfl rfl rfl rfl ?_; clear O; intro W b5 O; simp only [Act.put, List.setIfInBounds_toArray, List.set_cons_zero, List.set_cons_succ])
      | (refine own_box1 6 (.slice B n cb) O rfl rfl rfl rfl rfl ?_; clear O; intro W b6 O; simp only [Act.put, List.setIfInBounds_toArray, List.set_cons_zero, List.set_cons_succ])
      | (refine own_box1 8 (.int .i64 (i : Int)) O rfl rfl rfl rfl rfl ?_; clear O; intro W b8 O; simp only [Act.put, List.setIfInBounds_toArray, List.set_cons_zero, List.set_cons_succ])
      | (refine own_box1 9 (.int .i64 (j : Int)) O rfl rfl rfl rfl rfl ?_; clear O; intro W b9 O; simp only [Act.put, List.setIfInBounds_toArray, List.set_cons_zero, List.set_cons_succ]; have c8 := (O.get 1 rfl).cell 0; have c9 := (O.get 0 rfl).cell 0))
    go_ret
    exact ⟨by rw [HF.out]; rfl, O.keep⟩
end
end Go.Proofs.Ytakmcpadkanggaa
namespace Go.Proofs.Ytakmcpadkanggaa
open Go.RowKit Go.Maps Go.Deep
/-- Who holds each lock behind k events: 0: nobody, else the runner and 1. -/
def whoF (E : Nat → Ev) : Nat → Int → Int
  | 0 => fun _ => 0
  | k + 1 => if (E k).op = 8 then updI (whoF E k) (E k).a ((E k).who + 1) else if (E k).op = 9 then updI (whoF E k) (E k).a 0 else whoF E k
theorem whoF_ref (E : Nat → Ev) (q : Int) : ∀ k, whoF E k q = refW E q k + 1
  | 0 => by simp [whoF, refW]
  | k + 1 => by
    have ih := whoF_ref E q k
    simp only [whoF, refW]
    by_cases h8 : (E k).op = 8
    · have h9 : ¬ (E k).op = 9 := by omega
      rw [if_pos h8]
      by_cases ha : (E k).a = q
      · rw [← ha, updI_same]; simp [h8]
      · rw [updI_other _ _ _ _ (fun h => ha h.symm), ih]; simp [h8, ha]
    · rw [if_neg h8]
      by_cases h9 : (E k).op = 9
      · rw [if_pos h9]
        by_cases ha : (E k).a = q
        · rw [← ha, updI_same]; simp [h9]
        · rw [updI_other _ _ _ _ (fun h => ha h.symm), ih]; simp [h8, ha]
      · rw [if_neg h9, ih]; simp [h8, h9]
def insB (n : Nat) (i : Int) : Bool := decide (0 ≤ i) && decide (i < n)
def askedR (S : Sys) (E : Nat → Ev) (n : Nat) (xs : List Int) : Int × Int := if (thr S E n).2.2 = 0 then (if xs.all (insB n) then ((thr S E n).1, 0) else (0, 1)) else (0, (thr S E n).2.2)
def askV (r : Int × Int) : Value := .tuple #[.int .i64 r.1, .int .i64 r.2]
section
variable {w : World} {S : Sys} {A : Option Addr} {c : Nat} {R : Option Addr} {d n : Nat} {E : Nat → Ev} {B : Option Addr} {cb : Nat}
set_option maxRecDepth 100000 in
theorem asked_any (hS : SysIn w S A c R d) (hE : EvsAt w B n E) (hwf : ∀ i, i < n → (Lit.int .i64 (E i).a).wf = true) (v : Value) (xs : List Int) (hx : IntL w v xs) (hl : xs.length ≤ 10) : Calls Try.prog 62 #[.agg (sysV S A c R d), .slice B n cb, v] w fun e w' => e = .returned (askV (askedR S E n xs)) ∧ Keeps w w' [] := by
  have O := Own.start w []
  obtain ⟨A', c', rfl, hx⟩ := hx
  have HT : ∀ u, Keeps w u [] → Hid (Calls Try.prog 60 #[.agg (sysV S A c R d), .slice B n cb] u fun e w' => e = .returned (.tuple #[.int .i64 (thr S E n).1, .int .i64 (thr S E n).2.1, .int .i64 (thr S E n).2.2]) ∧ Keeps u w' []) := fun u k => Lib.hid (through_any (hS.kept k) (hE.kept k) hwf)
  have HX := Lib.hid hx
  clear hx hS hE hwf
  generalize hm : xs.length = m at *
  by_cases h : (thr S E n).2.2 = 0
  · have HA := Lib.hid (show askedR S E n xs = if xs.all (insB n) then ((thr S E n).1, 0) else (0, 1) by simp [askedR, h])
    generalize askedR S E n xs = r at HA ⊢
    generalize thr S E n = x at *
    obtain ⟨x0, x1, x2⟩ := x
    simp only at *
    subst h
    have HMl := Lib.hid hm
    clear hm
    go_enter Try.func62, Try.ntmps62
    go_wp2_with (first
      | go_big_skip
      | (refine own_box 3 (sysV S A c R d) O rfl rfl rfl rfl ?_; clear O; intro W a3 O; simp only [Act.put, List.setIfInBounds_toArray, List.set_cons_zero, List.set_cons_succ])
      | (refine own_load 14 0 O rfl rfl rfl rfl rfl Try.underlying27 rfl (by kernel_rfl) ?_; simp only [Act.put, List.setIfInBounds_toArray, List.set_cons_zero, List.set_cons_succ])
      | (go_at_call 60; refine ((HT _ O.keep).out).mono ?_; rintro e W ⟨rfl, K⟩; replace O := O.keeps K; clear K))
    go_loopw [25] (fun i wr => ∃ k : Nat, k ≤ m ∧ i = .int .i64 k ∧ Keeps w wr [] ∧ ∀ j, j < k → insB n (xs.getD j 0) = true) (fun i _ => m - (intOf i).toNat)
    case atStart => exact ⟨0, by omega, rfl, O.keep, fun j hj => by omega⟩
    case round =>
      obtain ⟨k, hk, rfl, K, hmk⟩ := hrel
      have HK := Lib.hid hmk
      clear hmk O
      by_cases hlt : k < m
      · have g1 : ((k : Int)) < m := by omega
        have g0 : (0 : Int) ≤ k := by omega
        obtain ⟨ad, rfl, hb, hc⟩ := HX.out (by omega)
        have c1 : wr.cell? (ad.add k) = some (.int .i64 (xs.getD k 0)) := (K.cellAt (by rw [add_block]; exact hb) (by simp)).trans (hc k hlt)
        clear hc hb
        have HNo := Lib.hid (show insB n (xs.getD k 0) = false → r = (0, 1) from fun hb => by
          rw [HA.out, if_neg]
          intro hall
          have hmem : xs.getD k 0 ∈ xs := by
            have : k < xs.length := by have := HMl.out; omega
            simp [this]
          rw [List.all_eq_true.1 hall _ hmem] at hb
          cases hb)
        have HYes := Lib.hid (show insB n (xs.getD k 0) = true → ∀ j, j < k + 1 → insB n (xs.getD j 0) = true from fun hb j hj => if h : j = k then (by rw [h]; exact hb) else HK.out j (by omega))
        generalize xs.getD k 0 = y at c1 HNo HYes
        by_cases h0 : y < 0
        · have HF := Lib.hid (HNo.out (by simp [insB]; omega))
          go_wp2_with (first | go_big_skip)
          go_returns
          exact ⟨by rw [HF.out]; rfl, K⟩
        · by_cases h1 : (n : Int) ≤ y
          · have HF := Lib.hid (HNo.out (by simp [insB]; omega))
            go_wp2_with (first | go_big_skip)
            go_returns
            exact ⟨by rw [HF.out]; rfl, K⟩
          · have HG := Lib.hid (HYes.out (by simp [insB]; omega))
            go_wp2_with (first | go_big_skip)
            clear c1
            go_roundw
            case rel => exact ⟨k + 1, by omega, by go_num, K, HG.out⟩
            case measure => (simp [intOf] <;> omega)
      · obtain rfl : k = m := by omega
        have HF := Lib.hid (show r = (x0, 0) by
          rw [HA.out, if_pos]
          rw [List.all_eq_true]
          intro y hy
          obtain ⟨j, hj, rfl⟩ := List.getElem_of_mem hy
          have := HK.out j (by have := HMl.out; omega)
          simpa [hj] using this)
        go_wp2
        go_returns
        exact ⟨by rw [HF.out]; rfl, K⟩
  · have HF := Lib.hid (show askedR S E n xs = (0, (thr S E n).2.2) by simp [askedR, h])
    generalize askedR S E n xs = r at HF ⊢
    generalize thr S E n = x at *
    obtain ⟨x0, x1, x2⟩ := x
    simp only at *
    go_enter Try.func62, Try.ntmps62
    go_wp2_with (first
      | go_big_skip
      | (refine own_box 3 (sysV S A c R d) O rfl rfl rfl rfl ?_; clear O; intro W a3 O; simp only [Act.put, List.setIfInBounds_toArray, List.set_cons_zero, List.set_cons_succ])
      | (refine own_load 14 0 O rfl rfl rfl rfl rfl Try.underlying27 rfl (by kernel_rfl) ?_; simp only [Act.put, List.setIfInBounds_toArray, List.set_cons_zero, List.set_cons_succ])
      | (go_at_call 60; refine ((HT _ O.keep).out).mono ?_; rintro e W ⟨rfl, K⟩; replace O := O.keeps K; clear K))
    go_returns
    exact ⟨by rw [HF.out]; rfl, O.keep⟩
set_option maxRecDepth 100000 in
set_option maxHeartbeats 1000000 in
theorem holder_64 (Inv : Nat → World → Prop) (m : Nat) (c0 c1 c2 c3 : Value) (hE : ∀ k u, Inv k u → EvsAt u B m E) (hm : m ≤ 40000) (hwf : ∀ i, i < m → (Lit.int .i64 (E i).a).wf = true) (hwho : ∀ i, i < m → 0 ≤ (E i).who ∧ (E i).who ≤ 100000)
    (h0 : Inv 0 w) (hI1 : ∀ k u u', Inv k u → Keeps u u' [] → Inv k u') (hI2 : ∀ k u u' b mm f, w.heap.size ≤ b → Inv k u → MapI u b mm f → Keeps u u' [b] → Inv k u')
    (hC : ∀ k u b, k < m → Inv k u → MapI u b k (whoF E k) → Calls Try.prog 64 #[.int .i64 (k : Int), .map (some b), c0, c1, c2, c3] u fun e u' => e = .returned (.tuple #[]) ∧ Inv (k + 1) u' ∧ MapI u' b k (whoF E k) ∧ ∀ g cs, Blk u g 37 cs → Blk u' g 37 cs) :
    Calls Try.prog 63 #[.slice B m cb, .func (.func 64) #[] #[c0, c1, c2, c3]] w fun e w' => e = .returned (.tuple #[]) ∧ Inv m w' := by
  have O := Own.start w []
  have HE := Lib.hid hE
  have HWFs := Lib.hid hwf
  have HWHO := Lib.hid hwho
  have HI0 := Lib.hid h0
  replace hI1 := Lib.hid hI1
  replace hI2 := Lib.hid hI2
  replace hC := Lib.hid hC
  clear hE hwf hwho h0
  go_enter Try.func63, Try.ntmps63
  go_wp2_with (first
    | go_big_skip
    | (refine own_makeMap 7 O rfl rfl rfl ?_; clear O; intro W b O K _ M hz; have HZb := Lib.hid hz; clear hz; have HI := Lib.hid (hI1.out _ _ _ HI0.out K); have HM := Lib.hid M; clear M K O; simp only [Act.put, List.setIfInBounds_toArray, List.set_cons_zero, List.set_cons_succ]))
  go_loopw [10] (fun i wr => ∃ k : Nat, k ≤ m ∧ i = .int .i64 k ∧ Inv k wr ∧ MapI wr b k (whoF E k)) (fun i _ => m - (intOf i).toNat)
  case atStart => exact ⟨0, by omega, rfl, HI.out, HM.out⟩
  case round =>
    clear HI HM
    obtain ⟨k, hk, rfl, hi, hmp⟩ := hrel
    have HI := Lib.hid hi
    have HM := Lib.hid hmp
    clear hi hmp
    by_cases hlt : k < m
    · have g1 : ((k : Int)) < m := by omega
      have g0 : (0 : Int) ≤ k := by omega
      obtain ⟨ad, rfl, hc⟩ := EvsAt.row (u := wr) (HE.out k wr HI.out) hlt
      have HC := Lib.hid hc
      have HWF := Lib.hid (HWFs.out k hlt)
      have HWO := Lib.hid (HWHO.out k hlt)
      have HQ := Lib.hid (fun u (h1 : Inv k u) (h2 : MapI u b k (whoF E k)) => hC.out k u b hlt h1 h2)
      have HNX := Lib.hid (show whoF E (k + 1) = if (E k).op = 8 then updI (whoF E k) (E k).a ((E k).who + 1) else if (E k).op = 9 then updI (whoF E k) (E k).a 0 else whoF E k from rfl)
      have O := Own.start wr []
      clear hc
      generalize E k = ev at HC HWF HWO HNX
      obtain ⟨who, op, a, v, sh⟩ := ev
      simp only at HWF HWO HNX
      by_cases o8 : op = 8
      · subst o8
        have r1 : IntKind.i64.wrap (who + 1) = who + 1 := IntWalk.i64_in _ (by have := HWO.out; omega)
        have HN := Lib.hid (show whoF E (k + 1) = updI (whoF E k) a (who + 1) by rw [HNX.out]; simp)
        go_wp2_with (first
          | go_big_skip
          | (refine wpList_load_at (cs := evC ⟨who, 8, a, v, sh⟩) 14 rfl rfl rfl rfl (HC.out [] _ O.keep (by simp)) Try.underlying37 rfl (by kernel_rfl) ?_; simp only [Act.put, List.setIfInBounds_toArray, List.set_cons_zero, List.set_cons_succ])
          | (refine own_alloc 6 (evC ⟨0, 0, 0, 0, false⟩) O rfl rfl rfl (fun _ => by kernel_rfl) ?_; clear O; intro W a6 O; simp only [Act.put, List.setIfInBounds_toArray, List.set_cons_zero, List.set_cons_succ])
          | (refine own_store_row 0 (.tmp 6) (.tmp 14) O rfl rfl rfl rfl rfl rfl (by kernel_rfl) (by rfl) (evC_cell _) ?_; clear O; intro W O; simp only [List.set_cons_zero] at O)
          | (go_at_call 64; refine ((HQ.out _ (hI1.out _ _ _ HI.out O.keep) (HM.out.keeps O.keep (by simp)))).mono ?_; rintro e W2 ⟨rfl, q1, q2, q3⟩; have q4 := q3 _ _ (O.get 0 rfl); have c6 : ∀ i, W2.cell? ⟨a6, i, none⟩ = #[Value.int .i64 who, .int .i64 8, .int .i64 a, .int .i64 v, .bool sh][i]? := q4.cell; clear q3 q4; have HI2 := Lib.hid q1; have HM2 := Lib.hid q2; clear q1 q2)
          | (refine map_storeI HM2.out 117 Try.underlying117 rfl rfl rfl rfl HWF.out rfl (WalkArith.wf_i64 (by have := HWO.out; omega)) (by unfold maxLen; omega) ?_; intro u K3 M3; have HI3 := Lib.hid (hI2.out _ _ _ _ _ _ HZb.out HI2.out HM2.out K3); have HM3 := Lib.hid M3; clear K3 M3))
        clear c6
        go_roundw
        case rel => exact ⟨k + 1, by omega, by go_num, HI3.out, by rw [HN.out]; exact HM3.out⟩
        case measure => (simp [intOf] <;> omega)
      by_cases o9 : op = 9
      · subst o9
        have HN := Lib.hid (show whoF E (k + 1) = updI (whoF E k) a 0 by rw [HNX.out]; simp)
        go_wp2_with (first
          | go_big_skip
          | (refine wpList_load_at (cs := evC ⟨who, 9, a, v, sh⟩) 14 rfl rfl rfl rfl (HC.out [] _ O.keep (by simp)) Try.underlying37 rfl (by kernel_rfl) ?_; simp only [Act.put, List.setIfInBounds_toArray, List.set_cons_zero, List.set_cons_succ])
          | (refine own_alloc 6 (evC ⟨0, 0, 0, 0, false⟩) O rfl rfl rfl (fun _ => by kernel_rfl) ?_; clear O; intro W a6 O; simp only [Act.put, List.setIfInBounds_toArray, List.set_cons_zero, List.set_cons_succ])
          | (refine own_store_row 0 (.tmp 6) (.tmp 14) O rfl rfl rfl rfl rfl rfl (by kernel_rfl) (by rfl) (evC_cell _) ?_; clear O; intro W O; simp only [List.set_cons_zero] at O)
          | (go_at_call 64; refine ((HQ.out _ (hI1.out _ _ _ HI.out O.keep) (HM.out.keeps O.keep (by simp)))).mono ?_; rintro e W2 ⟨rfl, q1, q2, q3⟩; have q4 := q3 _ _ (O.get 0 rfl); have c6 : ∀ i, W2.cell? ⟨a6, i, none⟩ = #[Value.int .i64 who, .int .i64 9, .int .i64 a, .int .i64 v, .bool sh][i]? := q4.cell; clear q3 q4; have HI2 := Lib.hid q1; have HM2 := Lib.hid q2; clear q1 q2)
          | (refine map_storeI HM2.out 117 Try.underlying117 rfl rfl rfl rfl HWF.out rfl wf0 (by unfold maxLen; omega) ?_; intro u K3 M3; have HI3 := Lib.hid (hI2.out _ _ _ _ _ _ HZb.out HI2.out HM2.out K3); have HM3 := Lib.hid M3; clear K3 M3))
        clear c6
        go_roundw
        case rel => exact ⟨k + 1, by omega, by go_num, HI3.out, by rw [HN.out]; exact HM3.out⟩
        case measure => (simp [intOf] <;> omega)
      have HN := Lib.hid (show whoF E (k + 1) = whoF E k by rw [HNX.out]; simp [o8, o9])
      go_wp2_with (first
        | go_big_skip
        | (refine wpList_load_at (cs := evC ⟨who, op, a, v, sh⟩) 14 rfl rfl rfl rfl (HC.out [] _ O.keep (by simp)) Try.underlying37 rfl (by kernel_rfl) ?_; simp only [Act.put, List.setIfInBounds_toArray, List.set_cons_zero, List.set_cons_succ])
        | (refine own_alloc 6 (evC ⟨0, 0, 0, 0, false⟩) O rfl rfl rfl (fun _ => by kernel_rfl) ?_; clear O; intro W a6 O; simp only [Act.put, List.setIfInBounds_toArray, List.set_cons_zero, List.set_cons_succ])
        | (refine own_store_row 0 (.tmp 6) (.tmp 14) O rfl rfl rfl rfl rfl rfl (by kernel_rfl) (by rfl) (evC_cell _) ?_; clear O; intro W O; simp only [List.set_cons_zero] at O)
        | (go_at_call 64; refine ((HQ.out _ (hI1.out _ _ _ HI.out O.keep) (HM.out.keeps O.keep (by simp)))).mono ?_; rintro e W2 ⟨rfl, q1, q2, q3⟩; have q4 := q3 _ _ (O.get 0 rfl); have c6 : ∀ i, W2.cell? ⟨a6, i, none⟩ = #[Value.int .i64 who, .int .i64 op, .int .i64 a, .int .i64 v, .bool sh][i]? := q4.cell; clear q3 q4; have HI2 := Lib.hid q1; have HM2 := Lib.hid q2; clear q1 q2))
      clear c6
      go_roundw
      case rel => exact ⟨k + 1, by omega, by go_num, HI2.out, by rw [HN.out]; exact HM2.out.mono (by omega)⟩
      case measure => (simp [intOf] <;> omega)
    · obtain rfl : k = m := by omega
      go_wp2
      go_returns
      exact ⟨rfl, HI.out⟩
set_option maxRecDepth 100000 in
set_option maxHeartbeats 1000000 in
theorem holder_67 (Inv : Nat → World → Prop) (m : Nat) (c0 c1 c2 c3 : Value) (hE : ∀ k u, Inv k u → EvsAt u B m E) (hm : m ≤ 40000) (hwf : ∀ i, i < m → (Lit.int .i64 (E i).a).wf = true) (hwho : ∀ i, i < m → 0 ≤ (E i).who ∧ (E i).who ≤ 100000)
    (h0 : Inv 0 w) (hI1 : ∀ k u u', Inv k u → Keeps u u' [] → Inv k u') (hI2 : ∀ k u u' b mm f, w.heap.size ≤ b → Inv k u → MapI u b mm f → Keeps u u' [b] → Inv k u')
    (hC : ∀ k u b, k < m → Inv k u → MapI u b k (whoF E k) → Calls Try.prog 67 #[.int .i64 (k : Int), .map (some b), c0, c1, c2, c3] u fun e u' => e = .returned (.tuple #[]) ∧ Inv (k + 1) u' ∧ MapI u' b k (whoF E k) ∧ ∀ g cs, Blk u g 37 cs → Blk u' g 37 cs) :
    Calls Try.prog 63 #[.slice B m cb, .func (.func 67) #[] #[c0, c1, c2, c3]] w fun e w' => e = .returned (.tuple #[]) ∧ Inv m w' := by
  have O := Own.start w []
  have HE := Lib.hid hE
  have HWFs := Lib.hid hwf
  have HWHO := Lib.hid hwho
  have HI0 := Lib.hid h0
  replace hI1 := Lib.hid hI1
  replace hI2 := Lib.hid hI2
  replace hC := Lib.hid hC
  clear hE hwf hwho h0
  go_enter Try.func63, Try.ntmps63
  go_wp2_with (first
    | go_big_skip
    | (refine own_makeMap 7 O rfl rfl rfl ?_; clear O; intro W b O K _ M hz; have HZb := Lib.hid hz; clear hz; have HI := Lib.hid (hI1.out _ _ _ HI0.out K); have HM := Lib.hid M; clear M K O; simp only [Act.put, List.setIfInBounds_toArray, List.set_cons_zero, List.set_cons_succ]))
  go_loopw [10] (fun i wr => ∃ k : Nat, k ≤ m ∧ i = .int .i64 k ∧ Inv k wr ∧ MapI wr b k (whoF E k)) (fun i _ => m - (intOf i).toNat)
  case atStart => exact ⟨0, by omega, rfl, HI.out, HM.out⟩
  case round =>
    clear HI HM
    obtain ⟨k, hk, rfl, hi, hmp⟩ := hrel
    have HI := Lib.hid hi
    have HM := Lib.hid hmp
    clear hi hmp
    by_cases hlt : k < m
    · have g1 : ((k : Int)) < m := by omega
      have g0 : (0 : Int) ≤ k := by omega
      obtain ⟨ad, rfl, hc⟩ := EvsAt.row (u := wr) (HE.out k wr HI.out) hlt
      have HC := Lib.hid hc
      have HWF := Lib.hid (HWFs.out k hlt)
      have HWO := Lib.hid (HWHO.out k hlt)
      have HQ := Lib.hid (fun u (h1 : Inv k u) (h2 : MapI u b k (whoF E k)) => hC.out k u b hlt h1 h2)
      have HNX := Lib.hid (show whoF E (k + 1) = if (E k).op = 8 then updI (whoF E k) (E k).a ((E k).who + 1) else if (E k).op = 9 then updI (whoF E k) (E k).a 0 else whoF E k from rfl)
      have O := Own.start wr []
      clear hc
      generalize E k = ev at HC HWF HWO HNX
      obtain ⟨who, op, a, v, sh⟩ := ev
      simp only at HWF HWO HNX
      by_cases o8 : op = 8
      · subst o8
        have r1 : IntKind.i64.wrap (who + 1) = who + 1 := IntWalk.i64_in _ (by have := HWO.out; omega)
        have HN := Lib.hid (show whoF E (k + 1) = updI (whoF E k) a (who + 1) by rw [HNX.out]; simp)
        go_wp2_with (first
          | go_big_skip
          | (refine wpList_load_at (cs := evC ⟨who, 8, a, v, sh⟩) 14 rfl rfl rfl rfl (HC.out [] _ O.keep (by simp)) Try.underlying37 rfl (by kernel_rfl) ?_; simp only [Act.put, List.setIfInBounds_toArray, List.set_cons_zero, List.set_cons_succ])
          | (refine own_alloc 6 (evC ⟨0, 0, 0, 0, false⟩) O rfl rfl rfl (fun _ => by kernel_rfl) ?_; clear O; intro W a6 O; simp only [Act.put, List.setIfInBounds_toArray, List.set_cons_zero, List.set_cons_succ])
          | (refine own_store_row 0 (.tmp 6) (.tmp 14) O rfl rfl rfl rfl rfl rfl (by kernel_rfl) (by rfl) (evC_cell _) ?_; clear O; intro W O; simp only [List.set_cons_zero] at O)
          | (go_at_call 67; refine ((HQ.out _ (hI1.out _ _ _ HI.out O.keep) (HM.out.keeps O.keep (by simp)))).mono ?_; rintro e W2 ⟨rfl, q1, q2, q3⟩; have q4 := q3 _ _ (O.get 0 rfl); have c6 : ∀ i, W2.cell? ⟨a6, i, none⟩ = #[Value.int .i64 who, .int .i64 8, .int .i64 a, .int .i64 v, .bool sh][i]? := q4.cell; clear q3 q4; have HI2 := Lib.hid q1; have HM2 := Lib.hid q2; clear q1 q2)
          | (refine map_storeI HM2.out 117 Try.underlying117 rfl rfl rfl rfl HWF.out rfl (WalkArith.wf_i64 (by have := HWO.out; omega)) (by unfold maxLen; omega) ?_; intro u K3 M3; have HI3 := Lib.hid (hI2.out _ _ _ _ _ _ HZb.out HI2.out HM2.out K3); have HM3 := Lib.hid M3; clear K3 M3))
        clear c6
        go_roundw
        case rel => exact ⟨k + 1, by omega, by go_num, HI3.out, by rw [HN.out]; exact HM3.out⟩
        case measure => (simp [intOf] <;> omega)
      by_cases o9 : op = 9
      · subst o9
        have HN := Lib.hid (show whoF E (k + 1) = updI (whoF E k) a 0 by rw [HNX.out]; simp)
        go_wp2_with (first
          | go_big_skip
          | (refine wpList_load_at (cs := evC ⟨who, 9, a, v, sh⟩) 14 rfl rfl rfl rfl (HC.out [] _ O.keep (by simp)) Try.underlying37 rfl (by kernel_rfl) ?_; simp only [Act.put, List.setIfInBounds_toArray, List.set_cons_zero, List.set_cons_succ])
          | (refine own_alloc 6 (evC ⟨0, 0, 0, 0, false⟩) O rfl rfl rfl (fun _ => by kernel_rfl) ?_; clear O; intro W a6 O; simp only [Act.put, List.setIfInBounds_toArray, List.set_cons_zero, List.set_cons_succ])
          | (refine own_store_row 0 (.tmp 6) (.tmp 14) O rfl rfl rfl rfl rfl rfl (by kernel_rfl) (by rfl) (evC_cell _) ?_; clear O; intro W O; simp only [List.set_cons_zero] at O)
          | (go_at_call 67; refine ((HQ.out _ (hI1.out _ _ _ HI.out O.keep) (HM.out.keeps O.keep (by simp)))).mono ?_; rintro e W2 ⟨rfl, q1, q2, q3⟩; have q4 := q3 _ _ (O.get 0 rfl); have c6 : ∀ i, W2.cell? ⟨a6, i, none⟩ = #[Value.int .i64 who, .int .i64 9, .int .i64 a, .int .i64 v, .bool sh][i]? := q4.cell; clear q3 q4; have HI2 := Lib.hid q1; have HM2 := Lib.hid q2; clear q1 q2)
          | (refine map_storeI HM2.out 117 Try.underlying117 rfl rfl rfl rfl HWF.out rfl wf0 (by unfold maxLen; omega) ?_; intro u K3 M3; have HI3 := Lib.hid (hI2.out _ _ _ _ _ _ HZb.out HI2.out HM2.out K3); have HM3 := Lib.hid M3; clear K3 M3))
        clear c6
        go_roundw
        case rel => exact ⟨k + 1, by omega, by go_num, HI3.out, by rw [HN.out]; exact HM3.out⟩
        case measure => (simp [intOf] <;> omega)
      have HN := Lib.hid (show whoF E (k + 1) = whoF E k by rw [HNX.out]; simp [o8, o9])
      go_wp2_with (first
        | go_big_skip
        | (refine wpList_load_at (cs := evC ⟨who, op, a, v, sh⟩) 14 rfl rfl rfl rfl (HC.out [] _ O.keep (by simp)) Try.underlying37 rfl (by kernel_rfl) ?_; simp only [Act.put, List.setIfInBounds_toArray, List.set_cons_zero, List.set_cons_succ])
        | (refine own_alloc 6 (evC ⟨0, 0, 0, 0, false⟩) O rfl rfl rfl (fun _ => by kernel_rfl) ?_; clear O; intro W a6 O; simp only [Act.put, List.setIfInBounds_toArray, List.set_cons_zero, List.set_cons_succ])
        | (refine own_store_row 0 (.tmp 6) (.tmp 14) O rfl rfl rfl rfl rfl rfl (by kernel_rfl) (by rfl) (evC_cell _) ?_; clear O; intro W O; simp only [List.set_cons_zero] at O)
        | (go_at_call 67; refine ((HQ.out _ (hI1.out _ _ _ HI.out O.keep) (HM.out.keeps O.keep (by simp)))).mono ?_; rintro e W2 ⟨rfl, q1, q2, q3⟩; have q4 := q3 _ _ (O.get 0 rfl); have c6 : ∀ i, W2.cell? ⟨a6, i, none⟩ = #[Value.int .i64 who, .int .i64 op, .int .i64 a, .int .i64 v, .bool sh][i]? := q4.cell; clear q3 q4; have HI2 := Lib.hid q1; have HM2 := Lib.hid q2; clear q1 q2))
      clear c6
      go_roundw
      case rel => exact ⟨k + 1, by omega, by go_num, HI2.out, by rw [HN.out]; exact HM2.out.mono (by omega)⟩
      case measure => (simp [intOf] <;> omega)
    · obtain rfl : k = m := by omega
      go_wp2
      go_returns
      exact ⟨rfl, HI.out⟩
end
end Go.Proofs.Ytakmcpadkanggaa
namespace Go.Proofs.Ytakmcpadkanggaa
open Go.RowKit Go.Maps Go.Deep
theorem Blk.ne {W : World} {g g' t t' : Nat} {cs cs' : Array Value} (h : Blk W g t cs) (h' : Blk W g' t' cs') (ht : t ≠ t') : g ≠ g' := by
  rintro rfl
  rw [Blk, h] at h'
  injection h' with h'
  injection h' with _ h' _
  exact ht h'
section
variable {base : Nat} {W : World} {v : Value} {xs : List Int}
theorem Mint.off (h : Mint base W v xs) {g t : Nat} {cs : Array Value} (hB : Blk W g t cs) (ht : t ≠ 3) : g ∉ v.ownBlock.toList := by
  intro hm
  obtain ⟨_, _, cur, hcur⟩ := h.own (g := g) (by simpa using hm)
  exact hB.ne hcur ht rfl
theorem Mint.cell (h : Mint base W v xs) : v.cells = #[v] ∧ v.oneCell' = true := by
  rcases h.2 with ⟨rfl, _⟩ | ⟨g, cap, cur, rfl, _⟩
  · exact ⟨rfl, rfl⟩
  · exact ⟨rfl, rfl⟩
end
end Go.Proofs.Ytakmcpadkanggaa
namespace Go.Proofs.Ytakmcpadkanggaa
open Go.RowKit Go.Maps Go.Deep
theorem thr_who {S : Sys} {E : Nat → Ev} {n : Nat} (h : ∀ j, j < n → okE S (stN E j) (E j) = true) (hn : n ≤ 40000) : ∀ j, j < n → 0 ≤ (E j).who ∧ (E j).who ≤ 100000 := fun j hj => by
  have h1 := h j hj
  have h2 := (stN_le E j).2.1
  simp [okE, headE] at h1
  omega
end Go.Proofs.Ytakmcpadkanggaa
namespace Go.Proofs.Ytakmcpadkanggaa
open Go.RowKit Go.Maps Go.Deep
section
variable {ops : Array Oper} {rest : List Oper} {o : Oper} {a : Act} {w W : World} {Q : Exit → Act → World → Prop} {S : List Nat} {L : List Ent} {x0 x1 x : Operand} {T : TypeId}
theorem own_litB (d : Nat) (n0 n1 : Int) (O : Own w W S L) (_hd : o.dst = some d) (hgd : o.guard = none) (ho : o.op = .buildSlice 25 2 #[(0, x0), (1, x1)]) (h0 : a.eval x0 = .int .i64 n0) (h1 : a.eval x1 = .int .i64 n1)
    (h : ∀ u g, Own w u S ((g, 3, #[.int .i64 n0, .int .i64 n1]) :: L) → Keeps W u [] → wpList Try.prog ops Q rest (a.put o.dst (.slice (some ⟨g, 0, none⟩) 2 2)) u) : wpList Try.prog ops Q (o :: rest) a W := by
  obtain ⟨i, hi, hz, hs, hb⟩ := info3
  have k := (Keeps.refl W []).alloc (.cells #[Value.int .i64 n0, .int .i64 n1] 3)
  refine wpList_buildSlice hgd 25 3 2 _ ho #[.int .i64 n0, .int .i64 n1] i (.int .i64 0) Try.underlying25 hi hz (by rw [hs]; decide) (by rw [hs]; decide) ?_ (h _ _ (O.add k (Blk.new _ _ _)) k)
  rw [hs]
  have e : ((#[(0, x0), (1, x1)] : Array (Nat × Operand)).map (fun (i, x) => (i, a.eval x))).toList = [(0, .int .i64 n0), (1, .int .i64 n1)] := by simp [h0, h1]
  rw [e]
  have r : Array.range 2 = #[0, 1] := by decide
  simp [Instr.fill, r, Value.cells]
end
theorem litB_cell {W : World} {g : Nat} {n0 n1 : Int} (h : Blk W g 3 #[.int .i64 n0, .int .i64 n1]) {j : Nat} (hj : j < [n0, n1].length) : W.cell? ((⟨g, 0, none⟩ : Addr).add j) = some (.int .i64 ([n0, n1].getD j 0)) := by
  rw [blk_add h j]
  match j, hj with
  | 0, _ => rfl
  | 1, _ => rfl
/-- What Before answers. -/
def beforeR (S : Sys) (E : Nat → Ev) (n : Nat) (i j : Int) : Bool × Int :=
  if (askedR S E n [i, j]).2 = 0 then (befB E (rmS S) i.toNat j.toNat, 0) else (false, (askedR S E n [i, j]).2)
section
variable {w : World} {S : Sys} {A : Option Addr} {c : Nat} {R : Option Addr} {d n : Nat} {E : Nat → Ev} {B : Option Addr} {cb : Nat}
theorem val_rooms {S : Sys} (h : validB S = true) : ∀ q, q < S.nr → 1 ≤ S.rm q ∧ S.rm q ≤ 1000000 := fun q hq => by
  have := ((validB_iff S).1 h).2.1 q hq
  simp [roomB] at this
  omega
theorem thr_r (h : (thr S E n).2.2 = 0) : (thr S E n).1 = (stN E n).r := by
  unfold thr at h ⊢
  cases hv : validB S with
  | false => rw [hv] at h; simp at h
  | true =>
    rw [hv] at h
    by_cases hn : 40000 < n
    · simp [hn] at h
    · rw [if_pos rfl, if_neg hn] at h
      cases hf : firstBad S E n with
      | some i => rw [hf] at h; simp at h
      | none => rw [if_pos rfl, if_neg hn]
theorem asked_two (i j : Int) (h : (askedR S E n [i, j]).2 = 0) : (thr S E n).2.2 = 0 ∧ (0 ≤ i ∧ i < n) ∧ (0 ≤ j ∧ j < n) ∧ askedR S E n [i, j] = ((stN E n).r, 0) := by
  unfold askedR at h ⊢
  by_cases h0 : (thr S E n).2.2 = 0
  · rw [if_pos h0] at h ⊢
    by_cases hi : [i, j].all (insB n) = true
    · have h2 := hi
      simp only [List.all_cons, List.all_nil, Bool.and_true, Bool.and_eq_true, insB, decide_eq_true_eq] at h2
      exact ⟨h0, h2.1, h2.2, by rw [if_pos hi, thr_r h0]⟩
    · rw [if_neg hi] at h; simp at h
  · rw [if_neg h0] at h; exact absurd h h0
set_option maxRecDepth 100000 in
set_option maxHeartbeats 1000000 in
theorem tbefore_any (hS : SysIn w S A c R d) (hE : EvsAt w B n E) (hcb : n ≤ cb) (hwf : ∀ i, i < n → (Lit.int .i64 (E i).a).wf = true) (i j : Int) : Calls Try.prog 44 #[.agg (sysV S A c R d), .slice B n cb, .int .i64 i, .int .i64 j] w fun e u => e = .returned (.tuple #[.bool (beforeR S E n i j).1, .int .i64 (beforeR S E n i j).2]) ∧ Keeps w u [] := by
  have O := Own.start w []
  have HA := Lib.hid (show ∀ u, Keeps w u [] → ∀ v, IntL u v [i, j] → Calls Try.prog 62 #[.agg (sysV S A c R d), .slice B n cb, v] u fun e w' => e = .returned (.tuple #[.int .i64 (askedR S E n [i, j]).1, .int .i64 (askedR S E n [i, j]).2]) ∧ Keeps u w' [] from fun u k v hv => asked_any (cb := cb) (hS.kept k) (hE.kept k) hwf v [i, j] hv (by simp))
  by_cases h : (askedR S E n [i, j]).2 = 0
  · obtain ⟨ht, ⟨hi0, hi1⟩, ⟨hj0, hj1⟩, hR⟩ := asked_two i j h
    obtain ⟨hv, hn, hok⟩ := thr_zero ht
    have hl := stN_le E n
    obtain ⟨p, rfl⟩ : ∃ p : Nat, i = (p : Int) := ⟨i.toNat, by omega⟩
    obtain ⟨q, rfl⟩ : ∃ q : Nat, j = (q : Int) := ⟨j.toNat, by omega⟩
    obtain ⟨r, hr⟩ : ∃ r : Nat, (stN E n).r = (r : Int) := ⟨(stN E n).r.toNat, by omega⟩
    have HF := Lib.hid (show beforeR S E n (p : Int) (q : Int) = (befB E (rmS S) p q, 0) by unfold beforeR; rw [if_pos h]; simp)
    have HB := Lib.hid (fun u (K : Keeps w u []) => before_any (cb := cb) (r := r) (i := p) (j := q) (hS.kept K) (hE.kept K) (val_rooms hv) hok hn hwf (by omega) (by omega) (by omega) (by omega) hcb)
    rw [hR, hr] at HA
    clear hS hE hcb hwf h ht hi0 hi1 hj0 hj1 hR hv hn hok hl hr
    go_enter Try.func44, Try.ntmps44
    go_wp2_with (first
      | go_big_skip
      | (refine own_box 4 (sysV S A c R d) O rfl rfl rfl rfl ?_; clear O; intro W b4 O; simp only [Act.put, List.setIfInBounds_toArray, List.set_cons_zero, List.set_cons_succ])
      | (refine own_load 13 0 O rfl rfl rfl rfl rfl Try.underlying27 rfl (by kernel_rfl) ?_; simp only [Act.put, List.setIfInBounds_toArray, List.set_cons_zero, List.set_cons_succ])
      | (refine own_load 24 0 O rfl rfl rfl rfl rfl Try.underlying27 rfl (by kernel_rfl) ?_; simp only [Act.put, List.setIfInBounds_toArray, List.set_cons_zero, List.set_cons_succ])
      | (refine own_litB 17 (p : Int) (q : Int) O rfl rfl rfl rfl rfl ?_; clear O; intro W gl O K1; clear K1; simp only [Act.put, List.setIfInBounds_toArray, List.set_cons_zero, List.set_cons_succ])
      | (go_at_call 62; refine (HA.out _ O.keep _ ⟨_, 2, rfl, fun _ => ⟨⟨gl, 0, none⟩, rfl, O.lt 0 rfl, fun j hj => litB_cell (O.get 0 rfl) hj⟩⟩).mono ?_; rintro e W ⟨rfl, K⟩; replace O := (O.keeps K).drop_ 1; clear K)
      | (go_at_call 79; refine (HB.out _ O.keep).mono ?_; rintro e W ⟨rfl, K⟩; replace O := O.keeps K; clear K))
    go_returns
    exact ⟨by rw [HF.out]; rfl, O.keep⟩
  · have HF := Lib.hid (show beforeR S E n i j = (false, (askedR S E n [i, j]).2) by unfold beforeR; rw [if_neg h])
    generalize beforeR S E n i j = r at HF ⊢
    generalize askedR S E n [i, j] = x at HA HF h
    obtain ⟨x0, x1⟩ := x
    simp only at h HF HA
    clear hS hE hwf hcb
    go_enter Try.func44, Try.ntmps44
    go_wp2_with (first
      | go_big_skip
      | (refine own_box 4 (sysV S A c R d) O rfl rfl rfl rfl ?_; clear O; intro W b4 O; simp only [Act.put, List.setIfInBounds_toArray, List.set_cons_zero, List.set_cons_succ])
      | (refine own_load 13 0 O rfl rfl rfl rfl rfl Try.underlying27 rfl (by kernel_rfl) ?_; simp only [Act.put, List.setIfInBounds_toArray, List.set_cons_zero, List.set_cons_succ])
      | (refine own_litB 17 i j O rfl rfl rfl rfl rfl ?_; clear O; intro W gl O K1; clear K1; simp only [Act.put, List.setIfInBounds_toArray, List.set_cons_zero, List.set_cons_succ])
      | (go_at_call 62; refine (HA.out _ O.keep _ ⟨_, 2, rfl, fun _ => ⟨⟨gl, 0, none⟩, rfl, O.lt 0 rfl, fun j hj => litB_cell (O.get 0 rfl) hj⟩⟩).mono ?_; rintro e W ⟨rfl, K⟩; replace O := (O.keeps K).drop_ 1; clear K))
    go_returns
    exact ⟨by rw [HF.out]; rfl, O.keep⟩
end
end Go.Proofs.Ytakmcpadkanggaa
namespace Go.Proofs.Ytakmcpadkanggaa
open Go.RowKit Go.Maps Go.Deep
def behP (f : Int → Bool) (i : Nat) (e : Int) : Bool := (e == (i : Int)) || f e
/-- What the document has marked behind event i, up to event k. -/
def behT (E : Nat → Ev) (rm : Int → Int) (i : Nat) : Nat → Int → Bool
  | 0 => fun _ => false
  | k + 1 => updI (behT E rm i k) (k : Int) (decide (i < k) && (intoL E rm k).any (behP (behT E rm i k) i))
section
variable {ops : Array Oper} {rest : List Oper} {o : Oper} {a : Act} {w W : World} {Q : Exit → Act → World → Prop} {S : List Nat} {L : List Ent} {g t : Nat} {ty : TypeId} {cs cs' : Array Value}
theorem own_storeK (k i : Nat) (v : Value) (y z : Operand) (O : Own w W S L) (hgd : o.guard = none) (hdst : o.dst = none) (ho : o.op = .store ty y z) (hy : a.eval y = .pointer (some ⟨g, i, none⟩)) (hz : a.eval z = v) (hk : L[k]? = some (g, t, cs))
    (hi : i < cs.size) (hx : v.cells = #[v]) (h1 : v.oneCell' = true) (hs : (Try.prog.info? ty).map (·.size) = some 1) (he : cs.setIfInBounds i v = cs')
    (h : ∀ u, Own w u S (L.set k (g, t, cs')) → Keeps W u [g] → wpList Try.prog ops Q rest a u) : wpList Try.prog ops Q (o :: rest) a W :=
  wpList_store_blk g i t cs v hgd hdst ho hy hz (O.get k hk) hi hx h1 hs fun u kp b => h u (O.set k hk kp (by rw [← he]; exact b)) kp
end
end Go.Proofs.Ytakmcpadkanggaa
namespace Go.Proofs.Ytakmcpadkanggaa
open Go.RowKit
/-- Event i is behind event j: a chain of edges leads from i to j. -/
inductive Bh (E : Nat → Ev) (rm : Int → Int) : Nat → Nat → Prop where
  | edge {i j : Nat} : (i : Int) ∈ intoL E rm j → Bh E rm i j
  | step {i k j : Nat} : Bh E rm i k → (k : Int) ∈ intoL E rm j → Bh E rm i j
section
variable {S : Sys} {E : Nat → Ev} {rm : Int → Int} {n i j k : Nat}
theorem Bh.trans (h : Bh E rm i k) (h' : Bh E rm k j) : Bh E rm i j := by
  induction h' with
  | edge h' => exact .step h h'
  | step _ h' ih => exact .step ih h'
theorem Bh.lt (hok : OkAll S E n) (h : Bh E rm i j) (hj : j < n) : i < j := by
  induction h with
  | edge h => have := intoL_lt (hok _ hj) h; omega
  | step _ h ih =>
    have h1 := intoL_lt (hok _ hj) h
    have := ih (by omega)
    omega
theorem behT_old : ∀ {m : Nat}, j < m → behT E rm i m (j : Int) = behT E rm i (j + 1) (j : Int)
  | m + 1, h => by
    by_cases e : j = m
    · rw [e]
    · rw [behT, updI_other _ _ _ _ (by omega)]
      exact behT_old (by omega)
theorem behT_at : behT E rm i (j + 1) (j : Int) = (decide (i < j) && (intoL E rm j).any (behP (behT E rm i j) i)) := by
  rw [behT, updI_same]
theorem behT_iff (hok : OkAll S E n) : ∀ j, j < n → (behT E rm i n (j : Int) = true ↔ Bh E rm i j) := by
  intro j
  induction j using Nat.strongRecOn with
  | ind j ih =>
    intro hj
    rw [behT_old hj, behT_at]
    constructor
    · intro h
      obtain ⟨_, h2⟩ := Bool.and_eq_true_iff.1 h
      obtain ⟨x, hx, hp⟩ := List.any_eq_true.1 h2
      obtain ⟨h0, h1⟩ := intoL_lt (hok _ hj) hx
      obtain ⟨p, rfl⟩ : ∃ p : Nat, x = (p : Int) := ⟨x.toNat, by omega⟩
      unfold behP at hp
      rcases Bool.or_eq_true_iff.1 hp with hp | hp
      · have e : p = i := by have := eq_of_beq hp; omega
        subst e
        exact .edge hx
      · rw [behT_old (show p < j by omega), ← behT_old (show p < n by omega)] at hp
        exact .step ((ih p (by omega) (by omega)).1 hp) hx
    · intro h
      have hlt := h.lt hok hj
      rw [decide_eq_true hlt, Bool.true_and, List.any_eq_true]
      cases h with
      | edge h => exact ⟨_, h, by simp [behP]⟩
      | step h hk =>
        rename_i k
        obtain ⟨_, h1⟩ := intoL_lt (hok _ hj) hk
        refine ⟨_, hk, ?_⟩
        unfold behP
        rw [behT_old (show k < j by omega), ← behT_old (show k < n by omega), (ih k (by omega) (by omega)).2 h, Bool.or_true]
end
end Go.Proofs.Ytakmcpadkanggaa
namespace Go.Proofs.Ytakmcpadkanggaa
open Go.RowKit
section
variable {S : Sys} {E : Nat → Ev} {rm : Int → Int} {n i j k : Nat}
theorem lastN_some {w : Int} : ∀ {j : Nat}, i < j → (E i).who = w → ∃ l : Nat, lastN E w j = some (l : Int) ∧ i ≤ l ∧ l < j ∧ (E l).who = w
  | j + 1, h, hw => by
    by_cases e : (E j).who = w
    · exact ⟨j, by simp [lastN, e], by omega, by omega, e⟩
    · have hij : i ≠ j := fun e' => e (e' ▸ hw)
      obtain ⟨l, h1, h2, h3, h4⟩ := lastN_some (j := j) (by omega) hw
      exact ⟨l, by simp [lastN, e, h1], h2, by omega, h4⟩
theorem own_last {l : Nat} {w : Int} (h : lastN E w j = some (l : Int)) : (l : Int) ∈ ownL (lkN E j) w := by
  rw [ownL_lk, h]
  simp
theorem own_behind (hok : OkAll S E n) : ∀ j, j < n → ∀ i, i < j → (E i).who = (E j).who → Bh E rm i j := by
  intro j
  induction j using Nat.strongRecOn with
  | ind j ih =>
    intro hj i hij hw
    obtain ⟨l, h1, h2, h3, h4⟩ := lastN_some hij hw
    have hm : (l : Int) ∈ intoL E rm j := (intoL_mem (hok _ hj) _).2 ⟨List.mem_append_left _ (own_last h1), by omega⟩
    by_cases e : i = l
    · subst e; exact .edge hm
    · exact .step (ih l h3 (by omega) i (by omega) (by rw [hw, h4])) hm
theorem edge_le (hok : OkAll S E n) (hj : j < n) (h : (i : Int) ∈ intoL E rm j) (w : Int) : clk E rm i w + (if (E j).who = w then 1 else 0) ≤ clk E rm j w := by
  rw [clk_eq (hok _ hj) w]
  have := maxL_le (List.mem_map.2 ⟨(i : Int), h, rfl⟩ : clk E rm i w ∈ (intoL E rm j).map fun x => clk E rm x w)
  omega
theorem bh_le (hok : OkAll S E n) (h : Bh E rm i j) (w : Int) (hj : j < n) : clk E rm i w + (if (E j).who = w then 1 else 0) ≤ clk E rm j w := by
  induction h with
  | edge h => exact edge_le hok hj h w
  | step _ h ih =>
    have h1 := intoL_lt (hok _ hj) h
    have h2 := ih (by omega)
    have h3 := edge_le hok hj h w
    split at h2 <;> omega
theorem clk_from (hok : OkAll S E n) (w : Int) : ∀ j, j < n → 0 < clk E rm j w → ∃ i, (E i).who = w ∧ clk E rm i w = clk E rm j w ∧ (i = j ∨ Bh E rm i j) := by
  intro j
  induction j using Nat.strongRecOn with
  | ind j ih =>
    intro hj h0
    by_cases e : (E j).who = w
    · exact ⟨j, e, rfl, .inl rfl⟩
    · have hc := clk_eq (rm := rm) (hok _ hj) w
      rw [if_neg e, Int.add_zero] at hc
      rcases maxL_mem ((intoL E rm j).map fun x => clk E rm x w) with h | h
      · omega
      · obtain ⟨x, hx, hx2⟩ := List.mem_map.1 h
        obtain ⟨h1, h2⟩ := intoL_lt (hok _ hj) hx
        obtain ⟨p, rfl⟩ : ∃ p : Nat, x = (p : Int) := ⟨x.toNat, by omega⟩
        have he : clk E rm p w = clk E rm j w := by rw [hc]; exact hx2
        obtain ⟨i, hi, hi2, hi3⟩ := ih p (by omega) (by omega) (by omega)
        refine ⟨i, hi, by rw [hi2, he], .inr ?_⟩
        rcases hi3 with rfl | hi3
        · exact .edge hx
        · exact .step hi3 hx
/-- The clocks' theorem. -/
theorem bh_clk (hok : OkAll S E n) (hi : i < n) (hj : j < n) : Bh E rm i j ↔ i < j ∧ clk E rm i (E i).who ≤ clk E rm j (E i).who := by
  constructor
  · intro h
    have := bh_le hok h (E i).who hj
    refine ⟨h.lt hok hj, ?_⟩
    split at this <;> omega
  · rintro ⟨hlt, hle⟩
    have h1 : 1 ≤ clk E rm i (E i).who := by
      rw [clk_eq (hok _ hi), if_pos rfl]
      have := maxL_nonneg ((intoL E rm i).map fun x => clk E rm x (E i).who)
      omega
    obtain ⟨q, hq, hq2, hq3⟩ := clk_from (rm := rm) hok (E i).who j hj (by omega)
    have hqj : q ≤ j := by
      rcases hq3 with rfl | h
      · omega
      · have := h.lt hok hj; omega
    rcases Nat.lt_trichotomy q i with h | rfl | h
    · have := bh_le hok (own_behind (rm := rm) hok i hi q h hq) (E i).who hi
      rw [if_pos rfl] at this
      omega
    · rcases hq3 with rfl | h
      · omega
      · exact h
    · have hb := own_behind (rm := rm) hok q (by omega) i h hq.symm
      rcases hq3 with rfl | h'
      · exact hb
      · exact hb.trans h'
theorem bef_beh (hok : OkAll S E n) (hi : i < n) (hj : j < n) : befB E rm i j = behT E rm i n (j : Int) := by
  rw [Bool.eq_iff_iff, behT_iff hok j hj, bh_clk hok hi hj]
  unfold befB
  simp
end
end Go.Proofs.Ytakmcpadkanggaa
namespace Go.Proofs.Ytakmcpadkanggaa
open Go.RowKit
def acB (E : Nat → Ev) (i : Nat) : Bool := decide ((E i).op = 12) || decide ((E i).op = 13)
def isAcc (E : Nat → Ev) (a : Int) (i : Nat) : Bool := acB E i && decide ((E i).a = a)
/-- Does access i race with access j? -/
def rcB (E : Nat → Ev) (rm : Int → Int) (i j : Nat) : Bool := (acB E i && acB E j) && ((decide ((E i).op = 13) || decide ((E j).op = 13)) && (decide ((E i).a = (E j).a) && (!decide ((E i).who = (E j).who) && !decide (clk E rm i (E i).who ≤ clk E rm j (E i).who))))
def prR (i j : Nat) : Int × Int := ((i : Int), (j : Int))
def raceJ (E : Nat → Ev) (rm : Int → Int) (j q : Nat) : List (Int × Int) := ((List.range q).filter fun i => rcB E rm i j).map fun i => prR i j
def raceA (E : Nat → Ev) (rm : Int → Int) : Nat → List (Int × Int)
  | 0 => []
  | j + 1 => raceA E rm j ++ raceJ E rm j j
section
variable {E : Nat → Ev} {rm : Int → Int} {i j n m : Nat}
theorem take_snoc {α : Type} (X : List α) (x : α) (m : Nat) : (X ++ [x]).take m = if X.length < m then X.take m ++ [x] else X.take m := by
  by_cases h : X.length < m
  · rw [if_pos h, List.take_of_length_le (by simp; omega), List.take_of_length_le (by omega)]
  · rw [if_neg h, List.take_append_of_le_length (by omega)]
theorem take_len_lt {α : Type} (X : List α) (m : Nat) : (X.take m).length < m ↔ X.length < m := by
  rw [List.length_take]
  omega
theorem take_pre {α : Type} {X Y : List α} (h : X <+: Y) {m : Nat} (hm : m ≤ X.length) : Y.take m = X.take m := by
  obtain ⟨t, rfl⟩ := h
  exact List.take_append_of_le_length hm
theorem raceJ_succ (j q : Nat) : raceJ E rm j (q + 1) = raceJ E rm j q ++ if rcB E rm q j = true then [prR q j] else [] := by
  unfold raceJ
  rw [List.range_succ, List.filter_append, List.map_append]
  congr 1
  cases h : rcB E rm q j <;> simp [h]
theorem raceJ_pre (j : Nat) : ∀ q k, q ≤ k → raceJ E rm j q <+: raceJ E rm j k
  | q, 0, h => by obtain rfl : q = 0 := by omega
                  exact List.prefix_rfl
  | q, k + 1, h => by
    by_cases e : q = k + 1
    · subst e; exact List.prefix_rfl
    · exact (raceJ_pre j q k (by omega)).trans (by rw [raceJ_succ]; exact List.prefix_append _ _)
theorem raceA_pre : ∀ j n, j ≤ n → raceA E rm j <+: raceA E rm n
  | j, 0, h => by obtain rfl : j = 0 := by omega
                  exact List.prefix_rfl
  | j, n + 1, h => by
    by_cases e : j = n + 1
    · subst e; exact List.prefix_rfl
    · exact (raceA_pre j n (by omega)).trans (List.prefix_append _ _)
/-- What holds of each pair that races. -/
theorem race_mem {x : Int × Int} : ∀ n, x ∈ raceA E rm n → ∃ i j : Nat, x = prR i j ∧ i < j ∧ j < n ∧ rcB E rm i j = true
  | 0, h => by simp [raceA] at h
  | n + 1, h => by
    rcases List.mem_append.1 h with h | h
    · obtain ⟨i, j, e, h1, h2, h3⟩ := race_mem n h
      exact ⟨i, j, e, h1, by omega, h3⟩
    · obtain ⟨i, hi, rfl⟩ := List.mem_map.1 h
      obtain ⟨h1, h2⟩ := List.mem_filter.1 hi
      exact ⟨i, n, rfl, List.mem_range.1 h1, by omega, h2⟩
theorem rc_iff : rcB E rm i j = true ↔ (acB E i = true ∧ acB E j = true) ∧ ((E i).op = 13 ∨ (E j).op = 13) ∧ (E i).a = (E j).a ∧ (E i).who ≠ (E j).who ∧ ¬ clk E rm i (E i).who ≤ clk E rm j (E i).who := by
  unfold rcB
  simp
/-- What the closure goes through: the accesses of that cell. -/
theorem raceJ_acc (hj : acB E j = true) : raceJ E rm j j = ((pickL (isAcc E (E j).a) j).filter fun i => rcB E rm i j).map fun i => prR i j := by
  unfold raceJ pickL
  rw [List.filter_filter]
  congr 1
  refine List.filter_congr fun i _ => ?_
  cases h : rcB E rm i j with
  | false => simp
  | true =>
    obtain ⟨⟨a1, _⟩, _, a3, _⟩ := rc_iff.1 h
    simp [isAcc, a1, a3]
theorem raceJ_not (hj : acB E j = false) : raceJ E rm j j = [] := by
  unfold raceJ
  rw [List.map_eq_nil_iff, List.filter_eq_nil_iff]
  intro i _ h
  obtain ⟨⟨_, a2⟩, _⟩ := rc_iff.1 h
  rw [hj] at a2; cases a2
/-- Behind q accesses of the cell. -/
def rcQ (E : Nat → Ev) (rm : Int → Int) (j q : Nat) : List (Int × Int) := (((pickL (isAcc E (E j).a) j).take q).filter fun i => rcB E rm i j).map fun i => prR i j
theorem rcQ_zero (j : Nat) : rcQ E rm j 0 = [] := rfl
theorem rcQ_succ {q : Nat} (hq : q < (pickL (isAcc E (E j).a) j).length) : rcQ E rm j (q + 1) = rcQ E rm j q ++ if rcB E rm ((pickL (isAcc E (E j).a) j).getD q 0) j = true then [prR ((pickL (isAcc E (E j).a) j).getD q 0) j] else [] := by
  unfold rcQ
  rw [List.take_succ_eq_append_getElem hq, List.filter_append, List.map_append, List.getD_eq_getElem?_getD, List.getElem?_eq_getElem hq]
  congr 1
  simp only [Option.getD_some]
  cases h : rcB E rm (pickL (isAcc E (E j).a) j)[q] j <;> simp [h]
theorem rcQ_all (hj : acB E j = true) : rcQ E rm j (pickL (isAcc E (E j).a) j).length = raceJ E rm j j := by
  unfold rcQ
  rw [List.take_length, raceJ_acc hj]
end
/-- What both Races answer. -/
def racesR (S : Sys) (E : Nat → Ev) (rm : Int → Int) (n : Nat) (most : Int) : List (Int × Int) × Int :=
  if (thr S E n).2.2 = 0 then (if most < 0 ∨ 4096 < most then ([], 1) else ((raceA E rm n).take most.toNat, 0)) else ([], (thr S E n).2.2)
end Go.Proofs.Ytakmcpadkanggaa
namespace Go.Proofs.Ytakmcpadkanggaa
open Go.RowKit Go.Maps Go.Deep
theorem EvsAt.keptS {w u : World} {A : Option Addr} {n : Nat} {E : Nat → Ev} (h : EvsAt w A n E) (k : Keeps w u []) : EvsAt u A n E := h.kept k
end Go.Proofs.Ytakmcpadkanggaa
namespace Go.Proofs.Ytakmcpadkanggaa
open Go.RowKit Go.Maps Go.Deep
def accC (E : Nat → Ev) (rm : Int → Int) (i : Nat) : Array Value := #[.int .i64 (i : Int), .int .i64 (E i).who, .int .i64 (clk E rm i (E i).who), .bool (decide ((E i).op = 13))]
def accL (E : Nat → Ev) (rm : Int → Int) (l : List Nat) : List Value := l.flatMap fun i => (accC E rm i).toList
theorem accL_snoc (E : Nat → Ev) (rm : Int → Int) (l : List Nat) (i : Nat) : accL E rm (l ++ [i]) = accL E rm l ++ (accC E rm i).toList := by simp [accL]
theorem accL_length (E : Nat → Ev) (rm : Int → Int) (l : List Nat) : (accL E rm l).length = l.length * 4 := by
  induction l with
  | nil => rfl
  | cons x l ih => simp only [accL, List.flatMap_cons, List.length_append, List.length_cons] at *; simp only [accC, List.length_cons, List.length_nil] at *; omega
theorem accL_get (E : Nat → Ev) (rm : Int → Int) : ∀ (l : List Nat) (i f : Nat), i < l.length → f < 4 → (accL E rm l)[i * 4 + f]? = (accC E rm (l.getD i 0))[f]?
  | x :: l, 0, f, _, hf => by
    have e : accL E rm (x :: l) = (accC E rm x).toList ++ accL E rm l := rfl
    rw [e, List.getElem?_append_left (by simp only [accC, List.length_cons, List.length_nil]; omega)]
    simp
  | x :: l, i + 1, f, h, hf => by
    have ih := accL_get E rm l i f (by simpa using h) hf
    have e : accL E rm (x :: l) = (accC E rm x).toList ++ accL E rm l := rfl
    have hl : (accC E rm x).toList.length = 4 := rfl
    rw [e, List.getElem?_append_right (by omega), hl, show (i + 1) * 4 + f - 4 = i * 4 + f by omega, ih]
    rfl
theorem arow {E : Nat → Ev} {rm : Int → Int} {W : World} {base n q m c : Nat} {v : Value} {ps : List Nat} {ad : Addr} (M : W.ownsRow base 130 4 v n (accL E rm ps)) (hv : v = .slice (some ad) m c) (hq : q < ps.length) : ∀ j, j < (accC E rm (ps.getD q 0)).size → W.cell? ((ad.add (q * 4)).add j) = (accC E rm (ps.getD q 0))[j]? := fun j hj => by
  have hj' : j < 4 := hj
  have h1 := accL_get E rm ps q j hq hj'
  rw [Addr.add_add, ← h1]
  obtain ⟨x, hx⟩ : ∃ x, (accL E rm ps)[q * 4 + j]? = some x := ⟨_, List.getElem?_eq_getElem (by rw [accL_length]; omega)⟩
  rw [hx]
  exact (gr_cell M hv hx).2
theorem rowT131 : RowT 131 130 4 32 (.agg #[.int .i64 0, .int .i64 0, .int .i64 0, .bool false]) := by
  have h : (Try.prog.info? 130).map (fun i => (i.zero, i.size, i.bytes)) = some (some (.agg #[.int .i64 0, .int .i64 0, .int .i64 0, .bool false]), 4, 32) := by kernel_rfl
  obtain ⟨i, hi, he⟩ := Option.map_eq_some_iff.1 h
  simp only [Prod.mk.injEq] at he
  exact ⟨Try.underlying131, ⟨i, hi, he.1, he.2.1, he.2.2⟩, rfl, by decide⟩
theorem rowT73 : RowT 73 79 2 16 (.agg #[.int .i64 0, .int .i64 0]) := by
  have h : (Try.prog.info? 79).map (fun i => (i.zero, i.size, i.bytes)) = some (some (.agg #[.int .i64 0, .int .i64 0]), 2, 16) := by kernel_rfl
  obtain ⟨i, hi, he⟩ := Option.map_eq_some_iff.1 h
  simp only [Prod.mk.injEq] at he
  exact ⟨Try.underlying73, ⟨i, hi, he.1, he.2.1, he.2.2⟩, rfl, by decide⟩
section
variable {ops : Array Oper} {rest : List Oper} {o : Oper} {a : Act} {w W : World} {Q : Exit → Act → World → Prop} {Sx : List Nat} {L : List Ent}
theorem own_litK (d T e len : Nat) (size : Nat) (z : Value) (parts : Array (Nat × Operand)) (cells : Array Value) (O : Own w W Sx L) (_hd : o.dst = some d) (hgd : o.guard = none) (ho : o.op = .buildSlice T len parts) (ht : Try.prog.underlying T = some (.slice e))
    (hi : (Try.prog.info? e).map (fun i => (i.zero, i.size)) = some (some z, size)) (h1 : ¬ len * size > 2 ^ 24) (h2 : ¬ len * size = 0)
    (hf : Instr.fill (fun i => some (i * size, size)) ((Array.range (len * size)).map (z.cells[· % z.cells.size]!)) (parts.map fun (i, x) => (i, a.eval x)).toList = some cells)
    (h : ∀ u g, Own w u Sx ((g, e, cells) :: L) → Keeps W u [] → W.heap.size ≤ g → wpList Try.prog ops Q rest (a.put o.dst (.slice (some ⟨g, 0, none⟩) len len)) u) : wpList Try.prog ops Q (o :: rest) a W := by
  obtain ⟨i, hi2, he⟩ := Option.map_eq_some_iff.1 hi
  simp only [Prod.mk.injEq] at he
  obtain ⟨hz, hs⟩ := he
  have k := (Keeps.refl W []).alloc (.cells cells e)
  refine wpList_buildSlice hgd T e len parts ho cells i z ht hi2 hz (by rw [hs]; exact h1) (by rw [hs]; exact h2) ?_ (h _ _ (O.add k (Blk.new _ _ _)) k (Nat.le_refl _))
  rw [hs]
  exact hf
end
def celV (f : Int → Option Value) (a : Int) : Value := (f a).getD (.slice none 0 0)
/-- The accesses of each cell. -/
structure CelAt (base : Nat) (W : World) (mt mc : Nat) (f : Int → Option Value) (E : Nat → Ev) (rm : Int → Int) (k : Nat) : Prop where
  map : MapV W mt mc f
  row : ∀ a, W.ownsRow base 130 4 (celV f a) (pickL (isAcc E a) k).length (accL E rm (pickL (isAcc E a) k))
  ne : ∀ a a' g, (celV f a).ownBlock = some g → (celV f a').ownBlock = some g → a = a'
section
variable {base mt mc k : Nat} {W u : World} {f : Int → Option Value} {E : Nat → Ev} {rm : Int → Int} {S : List Nat} {v' : Value}
theorem CelAt.keeps (h : CelAt base W mt mc f E rm k) (K : Keeps W u S) (h1 : mt ∉ S) (h2 : ∀ a g, (celV f a).ownBlock = some g → g ∉ S) : CelAt base u mt mc f E rm k :=
  ⟨h.map.keeps K h1, fun a => gr_keeps (h.row a) K (h2 a), h.ne⟩
theorem CelAt.new (h : CelAt base W mt mc f E rm k) (K : Keeps W u []) : CelAt base u mt mc f E rm k := h.keeps K (by simp) (by simp)
theorem CelAt.same (h : CelAt base W mt mc f E rm k) (hk : acB E k = false) : CelAt base W mt mc f E rm (k + 1) := by
  have e : ∀ a, pickL (isAcc E a) (k + 1) = pickL (isAcc E a) k := fun a => by rw [pickL_succ, if_neg (by simp [isAcc, hk]), List.append_nil]
  exact ⟨h.map, fun a => by rw [e]; exact h.row a, h.ne⟩
/-- One access more. -/
theorem CelAt.add (h : CelAt base W mt mc f E rm k) (hk : acB E k = true) {U : World} (K : Keeps W U (celV f (E k).a).ownBlock.toList) (M : U.ownsRow base 130 4 v' ((pickL (isAcc E (E k).a) k).length + 1) (accL E rm (pickL (isAcc E (E k).a) k) ++ (accC E rm k).toList)) (hb : v'.ownBlock = (celV f (E k).a).ownBlock ∨ ∃ g, v'.ownBlock = some g ∧ W.heap.size ≤ g)
    (Ku : Keeps U u [mt]) (hm : MapV u mt (mc + 1) (updI f (E k).a (some v'))) : CelAt base u mt (mc + 1) (updI f (E k).a (some v')) E rm (k + 1) := by
  have at_ : celV (updI f (E k).a (some v')) (E k).a = v' := by simp [celV]
  have oth : ∀ a, a ≠ (E k).a → celV (updI f (E k).a (some v')) a = celV f a := fun a ha => by unfold celV; rw [updI_other _ _ _ _ ha]
  have nb : ∀ {v : Value} {e n : Nat} {xs : List Value}, U.ownsRow base e 4 v n xs → ∀ g, v.ownBlock = some g → g ∉ [mt] := fun {v e n xs} M g hg hm' => by
    obtain ⟨_, _, cur, hB⟩ := gr_own M hg
    have e1 := List.mem_singleton.1 hm'
    subst e1
    exact (MapV.not_blk (h.map.keeps K (fun hq => by
      obtain ⟨_, _, cur', hB'⟩ := gr_own (h.row (E k).a) (g := g) (by simpa using hq)
      exact h.map.not_blk hB' rfl)) hB) rfl
  have own_lt : ∀ a g, (celV f a).ownBlock = some g → g < W.heap.size := fun a g hg => (gr_own (h.row a) hg).2.1
  refine ⟨hm, fun a => ?_, fun a a' g h1 h2 => ?_⟩
  · by_cases e : a = (E k).a
    · subst e
      rw [at_, pickL_succ, if_pos (by simp [isAcc, hk]), accL_snoc, List.length_append]
      exact gr_keeps M Ku (nb M)
    · rw [oth a e, pickL_succ, if_neg (by simp only [isAcc, Bool.and_eq_true, decide_eq_true_eq]; exact fun q => e q.2.symm), List.append_nil]
      have h1 : U.ownsRow base 130 4 (celV f a) _ _ := gr_keeps (h.row a) K fun g hg hm' => e (h.ne a _ g hg (by simpa using hm'))
      exact gr_keeps h1 Ku (nb h1)
  · by_cases e : a = (E k).a
    · by_cases e' : a' = (E k).a
      · rw [e, e']
      · subst e
        rw [at_] at h1
        rw [oth a' e'] at h2
        rcases hb with hb | ⟨g', hb, hl⟩
        · rw [hb] at h1; exact h.ne _ _ g h1 h2
        · rw [hb] at h1
          injection h1 with h1
          have := own_lt a' g h2
          omega
    · rw [oth a e] at h1
      by_cases e' : a' = (E k).a
      · subst e'
        rw [at_] at h2
        rcases hb with hb | ⟨g', hb, hl⟩
        · rw [hb] at h2; exact h.ne _ _ g h1 h2
        · rw [hb] at h2
          injection h2 with h2
          have := own_lt a g h1
          omega
      · rw [oth a' e'] at h2
        exact h.ne _ _ g h1 h2
end
/-- What the closure of Races has behind k events. -/
def RcInv (w0 : World) (E : Nat → Ev) (rm : Int → Int) (B : Option Addr) (n cb most b4 b10 b5 b11 mt : Nat) (k : Nat) (u : World) (D : List Nat) : Prop :=
  ∃ v f Dc mc, D = b4 :: b10 :: b5 :: b11 :: mt :: (v.ownBlock.toList ++ Dc) ∧ mc ≤ k ∧ Keeps w0 u [] ∧ Blk u b4 31 #[.slice B n cb] ∧ Blk u b10 73 #[v] ∧ Blk u b5 3 #[.int .i64 (most : Int)] ∧ Blk u b11 128 #[.map (some mt)] ∧
    MintP 79 w0.heap.size u v ((raceA E rm k).take most) ∧ CelAt w0.heap.size u mt mc f E rm k ∧ (∀ a g, (celV f a).ownBlock = some g → g ∈ Dc) ∧ (∀ b ∈ Dc, b < u.heap.size) ∧ (w0.heap.size ≤ b4 ∧ w0.heap.size ≤ b10 ∧ w0.heap.size ≤ b5 ∧ w0.heap.size ≤ b11 ∧ w0.heap.size ≤ mt)
theorem rcInv_ok {w0 : World} {E : Nat → Ev} {rm : Int → Int} {B : Option Addr} {n cb most b4 b10 b5 b11 mt k : Nat} : IvOk w0 (RcInv w0 E rm B n cb most b4 b10 b5 b11 mt k) := by
  rintro W u D S ⟨v, f, Dc, mc, rfl, hm, K0, h4, h10, h5, h11, M, C, hD, hl, hb⟩ K hS
  have ns : ∀ b, b ∈ b4 :: b10 :: b5 :: b11 :: mt :: (v.ownBlock.toList ++ Dc) → b ∉ S := fun b hb hm => (hS b hm).1 hb
  refine ⟨v, f, Dc, mc, rfl, hm, K0.trans K (fun b hb hlt => by have := (hS b hb).2; omega), h4.keeps K (ns _ (by simp)), h10.keeps K (ns _ (by simp)), h5.keeps K (ns _ (by simp)), h11.keeps K (ns _ (by simp)), gr_keeps M K (fun g hg => ns _ (by simp [hg])), C.keeps K (ns _ (by simp)) (fun a g hg => ns _ ?_), hD, fun b hb => Nat.lt_of_lt_of_le (hl b hb) K.size, hb⟩
  have := hD a g hg
  simp [this]
end Go.Proofs.Ytakmcpadkanggaa

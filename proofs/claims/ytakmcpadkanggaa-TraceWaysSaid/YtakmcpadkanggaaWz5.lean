/-
  Part 5 of what this claim rests on.
-/
import Derived.Deep.DeepCutAuto
import Derived.Deep.CutBlock
import Derived.ArgAppend
import Derived.Test.YtakmcpadkanggaaWz4
namespace Go.Proofs.Ytakmcpadkanggaa
open Go.RowKit Go.Maps Go.Deep
section
variable {S : Sys} {E : Nat → Ev} {rm : Int → Int} {r j wn : Nat}
/-- Of each runner below r. -/
def nowN (E : Nat → Ev) (rm : Int → Int) (j : Nat) (i : Nat) : Int → Int := nowC E rm j (i : Int)
theorem note_now (h : OkAll S E (j + 1)) (hw : (E j).who = (wn : Int)) {nc : Nat → Int → Int} (hn : ∀ i, i ≠ wn → i < r → ∀ c : Nat, c < r → nc i c = nowN E rm j i c) (hs : ∀ c : Nat, c < r → nc wn c = clk E rm j c) : ∀ i, i < r → ∀ c : Nat, c < r → noteN r nc (clk E rm j) (E j) i c = nowN E rm (j + 1) i c := by
  intro i hi c hc
  have hj := h j (by omega)
  have hA : OkAll S E j := fun k hk => h k (by omega)
  have hwr := (ok_head hj).2.1
  have self : nowN E rm (j + 1) wn c = clk E rm j c := by
    unfold nowN
    rw [← hw, now_self]
  unfold noteN
  by_cases h14 : (E j).op = 14 ∧ 0 < (E j).v
  · rw [if_pos h14]
    have hv : (E j).v = (stN E j).r := by
      rcases ok_start hj h14.1 with e | e
      · omega
      · exact e.1
    by_cases e : i = (E j).v.toNat
    · have hiv : ((i : Nat) : Int) = (E j).v := by omega
      unfold updN
      rw [if_pos e, ← e]
      have hne : i ≠ wn := by omega
      have hz : ∀ q : Nat, q < r → nc i q = 0 := fun q hq => by
        rw [hn i hne hi q hq]
        unfold nowN
        rw [now_fresh hA (show (stN E j).r ≤ ((i : Nat) : Int) by omega)]
      have hb : nowN E rm (j + 1) i c = clk E rm j c := by
        unfold nowN
        rw [now_born hA (i := (i : Int)) (by omega) h14.1 h14.2 (by omega) (by omega)]
      rw [hb]
      unfold jmax
      rw [if_pos (by omega), Int.toNat_natCast, rowOf_get _ _ _ hc, hz c hc]
      have := clk_nonneg (E := E) (rm := rm) j c
      omega
    · unfold updN
      rw [if_neg e]
      by_cases e2 : i = wn
      · rw [e2, self, hs c hc]
      · rw [hn i e2 hi c hc]
        unfold nowN
        rw [now_other (by omega) (fun q => e (by have := q.2.2; omega))]
  · rw [if_neg h14]
    by_cases e2 : i = wn
    · rw [e2, self, hs c hc]
    · rw [hn i e2 hi c hc]
      unfold nowN
      rw [now_other (by omega) (fun q => h14 ⟨q.1, q.2.1⟩)]
theorem note_kc : ∀ i, i < 3 → noteK r (tkC E rm r j) (clk E rm j) (j : Int) (E j) i = tkC E rm r (j + 1) i := by
  have kb := keptB_nat (E := E) j
  intro i hi
  unfold noteK joinR
  by_cases h5 : (E j).op = 5 ∨ (E j).op = 6 ∨ (E j).op = 7
  · rw [if_pos h5]
    have hk : keptB E j = true := by rw [kb]; rcases h5 with h | h | h <;> simp [h]
    match i, hi with
    | 0, _ => rw [tk_keep hk]; rfl
    | 1, _ => rw [tk_add_not (by omega)]; rfl
    | 2, _ => rw [tk_free_not (by omega) (by omega)]; rfl
  · rw [if_neg h5]
    have hk : keptB E j = false := by
      rw [kb]
      simp only [Bool.or_eq_false_iff, beq_eq_false_iff_ne, ne_eq]
      omega
    by_cases h10 : (E j).op = 10
    · rw [if_pos h10]
      match i, hi with
      | 0, _ => rw [tk_keep_not hk]; rfl
      | 1, _ => rw [tk_add h10]; rfl
      | 2, _ => rw [tk_free_not (by omega) (by omega)]; rfl
    · rw [if_neg h10]
      by_cases h9 : (E j).op = 9
      · rw [if_pos h9]
        match i, hi with
        | 0, _ => rw [tk_keep_not hk]; rfl
        | 1, _ => rw [tk_add_not (by omega)]; rfl
        | 2, _ => rw [tk_free h9]; rfl
      · rw [if_neg h9]
        by_cases h8 : (E j).op = 8
        · rw [if_pos h8]
          match i, hi with
          | 0, _ => rw [tk_keep_not hk]; rfl
          | 1, _ => rw [tk_add_not (by omega)]; rfl
          | 2, _ => rw [tk_lock h8]; rfl
        · rw [if_neg h8]
          match i, hi with
          | 0, _ => rw [tk_keep_not hk]
          | 1, _ => rw [tk_add_not h10]
          | 2, _ => rw [tk_free_not h8 h9]
end
structure TS (w0 W : World) (L : List Ent) (Iv : World → List Nat → Prop) (base r gN : Nat) (nb mt : Nat → Nat) (X D F : List Nat) (nc : Nat → Int → Int) (kc : Nat → Int → List Int) (m : Nat) (rooms : Value) (p : Nat) (mb : Nat → Nat) (lk : Lk) (mL base2 : Nat) : Prop where
  own : Own w0 W [] L
  tk : ∃ f, TkAt W base r gN nb mt f X nc kc m
  la : ∃ fL, LinksAt W F rooms p mb fL lk mL base2
  iv : Iv W D
  bs : w0.heap.size ≤ base ∧ w0.heap.size ≤ base2
  dD : ∀ b ∈ D, w0.heap.size ≤ b ∧ b < W.heap.size
  dX : ∀ b ∈ D, b ∉ X
  dF : ∀ b ∈ D, b ∉ F ∧ b ≠ p
  xF : ∀ b ∈ X, b ∉ F ∧ b ≠ p
  lX : ∀ q ∈ L, q.1 ∉ X ∧ q.1 ∉ D ∧ q.1 ∉ F ∧ q.1 ≠ p
  hp : w0.heap.size ≤ p
/-- What the client has does not hang on other blocks than its own. -/
def IvOk (w0 : World) (Iv : World → List Nat → Prop) : Prop := ∀ W u D S, Iv W D → Keeps W u S → (∀ b ∈ S, b ∉ D ∧ w0.heap.size ≤ b) → Iv u D
section
variable {w0 W u : World} {L : List Ent} {Iv : World → List Nat → Prop} {base r gN : Nat} {nb mt : Nat → Nat} {X D F S F' X' D' : List Nat} {nc nc' : Nat → Int → Int} {kc kc' : Nat → Int → List Int} {m m' : Nat} {rooms : Value} {p : Nat} {mb : Nat → Nat} {lk lk' : Lk} {mL mL' base2 : Nat}
theorem TS.ltX (h : TS w0 W L Iv base r gN nb mt X D F nc kc m rooms p mb lk mL base2) : ∀ b ∈ X, base ≤ b ∧ b < W.heap.size := by obtain ⟨f, ht⟩ := h.tk; exact ht.ltX
theorem TS.ltF (h : TS w0 W L Iv base r gN nb mt X D F nc kc m rooms p mb lk mL base2) : ∀ b ∈ F, base2 ≤ b ∧ b < W.heap.size := by obtain ⟨f, ht⟩ := h.la; exact ht.ltF
theorem TS.ltp (h : TS w0 W L Iv base r gN nb mt X D F nc kc m rooms p mb lk mL base2) : p < W.heap.size := by obtain ⟨f, ht⟩ := h.la; exact ht.blk.lt
theorem TS.fresh (h : TS w0 W L Iv base r gN nb mt X D F nc kc m rooms p mb lk mL base2) (hI : IvOk w0 Iv) (K : Keeps W u []) : TS w0 u L Iv base r gN nb mt X D F nc kc m rooms p mb lk mL base2 := by
  obtain ⟨f, ht⟩ := h.tk
  obtain ⟨fL, hl⟩ := h.la
  exact ⟨h.own.keeps K, ⟨f, ht.keptS K (by simp)⟩, ⟨fL, hl.kept K (by simp)⟩, hI _ _ _ _ h.iv K (by simp), h.bs, fun b hb => ⟨(h.dD b hb).1, Nat.lt_of_lt_of_le (h.dD b hb).2 K.size⟩, h.dX, h.dF, h.xF, h.lX, h.hp⟩
/-- A new block of the call's own. -/
theorem TS.add (h : TS w0 W L Iv base r gN nb mt X D F nc kc m rooms p mb lk mL base2) (hI : IvOk w0 Iv) (K : Keeps W u []) {q : Ent} (O : Own w0 u [] (q :: L)) (hq : W.heap.size ≤ q.1) : TS w0 u (q :: L) Iv base r gN nb mt X D F nc kc m rooms p mb lk mL base2 := by
  have h1 := h.fresh hI K
  refine ⟨O, h1.tk, h1.la, h1.iv, h1.bs, h1.dD, h1.dX, h1.dF, h1.xF, fun x hx => ?_, h1.hp⟩
  rcases List.mem_cons.1 hx with rfl | hx
  · refine ⟨fun hm => ?_, fun hm => ?_, fun hm => ?_, fun e => ?_⟩
    · have := (h.ltX _ hm).2; omega
    · have := (h.dD _ hm).2; omega
    · have := (h.ltF _ hm).2; omega
    · have := h.ltp; omega
  · exact h1.lX x hx
theorem TS.drop_ (h : TS w0 W L Iv base r gN nb mt X D F nc kc m rooms p mb lk mL base2) (n : Nat) : TS w0 W (L.drop n) Iv base r gN nb mt X D F nc kc m rooms p mb lk mL base2 :=
  ⟨h.own.drop_ n, h.tk, h.la, h.iv, h.bs, h.dD, h.dX, h.dF, h.xF, fun q hq => h.lX q (List.mem_of_mem_drop hq), h.hp⟩
/-- A block of the call's own is written. -/
theorem TS.wrote (h : TS w0 W L Iv base r gN nb mt X D F nc kc m rooms p mb lk mL base2) (hI : IvOk w0 Iv) {g : Nat} (K : Keeps W u [g]) {L' : List Ent} (O : Own w0 u [] L') (hg : ∃ q ∈ L, q.1 = g) (hL : L'.map (·.1) = L.map (·.1)) : TS w0 u L' Iv base r gN nb mt X D F nc kc m rooms p mb lk mL base2 := by
  obtain ⟨f, ht⟩ := h.tk
  obtain ⟨fL, hl⟩ := h.la
  obtain ⟨q0, hq0, rfl⟩ := hg
  obtain ⟨a1, a2, a3, a4⟩ := h.lX q0 hq0
  refine ⟨O, ⟨f, ht.keptS K fun b hb => by rw [List.mem_singleton.1 hb]; exact a1⟩, ⟨fL, hl.kept K fun b hb => by rw [List.mem_singleton.1 hb]; exact ⟨a3, a4⟩⟩, hI _ _ _ _ h.iv K (fun b hb => by rw [List.mem_singleton.1 hb]; exact ⟨a2, by rcases Nat.lt_or_ge q0.1 w0.heap.size with hl | hl; (· exact absurd (h.own.new q0 hq0 hl) (by simp)); (· exact hl)⟩), h.bs, fun b hb => ⟨(h.dD b hb).1, Nat.lt_of_lt_of_le (h.dD b hb).2 K.size⟩, h.dX, h.dF, h.xF, fun x hx => ?_, h.hp⟩
  have hm : x.1 ∈ L.map (·.1) := by rw [← hL]; exact List.mem_map.2 ⟨x, hx, rfl⟩
  obtain ⟨y, hy, e⟩ := List.mem_map.1 hm
  rw [← e]
  exact h.lX y hy
/-- The runners' clocks or the kept rows are others: blocks of X alone were written. -/
theorem TS.tick (h : TS w0 W L Iv base r gN nb mt X D F nc kc m rooms p mb lk mL base2) (hI : IvOk w0 Iv) (K : Keeps W u X) {f : Nat → Int → Option Value} (T : TkAt u base r gN nb mt f X' nc' kc' m') (hX : ∀ b ∈ X', b ∈ X ∨ W.heap.size ≤ b) : TS w0 u L Iv base r gN nb mt X' D F nc' kc' m' rooms p mb lk mL base2 := by
  obtain ⟨fL, hl⟩ := h.la
  have hlt : ∀ b ∈ X, b < w0.heap.size → False := fun b hb hlt => by
    have := (h.ltX b hb).1
    have := h.bs.1
    omega
  refine ⟨h.own.wrote K (fun b hb hb' => (hlt b hb hb').elim) (fun q hq => (h.lX q hq).1), ⟨f, T⟩, ⟨fL, hl.kept K fun b hb => h.xF b hb⟩, hI _ _ _ _ h.iv K (fun b hb => ⟨fun hm => h.dX b hm hb, by have := (h.ltX b hb).1; have := h.bs.1; omega⟩), h.bs, fun b hb => ⟨(h.dD b hb).1, Nat.lt_of_lt_of_le (h.dD b hb).2 K.size⟩, fun b hb hm => ?_, h.dF, fun b hb => ?_, fun q hq => ?_, h.hp⟩
  · rcases hX b hm with h1 | h1
    · exact h.dX b hb h1
    · have := (h.dD b hb).2; omega
  · rcases hX b hb with h1 | h1
    · exact h.xF b h1
    · refine ⟨fun hm => ?_, fun e => ?_⟩
      · have := (h.ltF b hm).2; omega
      · have := h.ltp; omega
  · obtain ⟨a1, a2, a3, a4⟩ := h.lX q hq
    refine ⟨fun hm => ?_, a2, a3, a4⟩
    rcases hX _ hm with h1 | h1
    · exact a1 h1
    · have := (h.own.blk q hq).lt; omega
/-- The links are others. -/
theorem TS.link (h : TS w0 W L Iv base r gN nb mt X D F nc kc m rooms p mb lk mL base2) (hI : IvOk w0 Iv) (K : Keeps W u F) {fL : Nat → Int → Option Value} (LA : LinksAt u F' rooms p mb fL lk' mL' base2) (hF : ∀ b ∈ F', b ∈ F ∨ W.heap.size ≤ b) : TS w0 u L Iv base r gN nb mt X D F' nc kc m rooms p mb lk' mL' base2 := by
  obtain ⟨f, ht⟩ := h.tk
  refine ⟨h.own.wrote K (fun b hb hb' => ?_) (fun q hq => (h.lX q hq).2.2.1), ⟨f, ht.keptS K fun b hb hm => (h.xF b hm).1 hb⟩, ⟨fL, LA⟩, hI _ _ _ _ h.iv K (fun b hb => ⟨fun hm => (h.dF b hm).1 hb, by have := (h.ltF b hb).1; have := h.bs.2; omega⟩), h.bs, fun b hb => ⟨(h.dD b hb).1, Nat.lt_of_lt_of_le (h.dD b hb).2 K.size⟩, h.dX, fun b hb => ⟨fun hm => ?_, (h.dF b hb).2⟩, fun b hb => ⟨fun hm => ?_, (h.xF b hb).2⟩, fun q hq => ?_, h.hp⟩
  · have := (h.ltF b hb).1
    have := h.bs.2
    omega
  · rcases hF b hm with h1 | h1
    · exact (h.dF b hb).1 h1
    · have := (h.dD b hb).2; omega
  · rcases hF b hm with h1 | h1
    · exact (h.xF b hb).1 h1
    · have := (h.ltX b hb).2; omega
  · obtain ⟨a1, a2, a3, a4⟩ := h.lX q hq
    refine ⟨a1, a2, fun hm => ?_, a4⟩
    rcases hF _ hm with h1 | h1
    · exact a3 h1
    · have := (h.own.blk q hq).lt; omega
/-- The client has gone on. -/
theorem TS.client {Iv' : World → List Nat → Prop} (h : TS w0 W L Iv base r gN nb mt X D F nc kc m rooms p mb lk mL base2) (K : Keeps W u D) (hv : Iv' u D') (hD : ∀ b ∈ D', b ∈ D ∨ W.heap.size ≤ b) (hlt : ∀ b ∈ D', b < u.heap.size) : TS w0 u L Iv' base r gN nb mt X D' F nc kc m rooms p mb lk mL base2 := by
  obtain ⟨f, ht⟩ := h.tk
  obtain ⟨fL, hl⟩ := h.la
  refine ⟨h.own.wrote K (fun b hb hb' => ?_) (fun q hq => (h.lX q hq).2.1), ⟨f, ht.keptS K fun b hb => h.dX b hb⟩, ⟨fL, hl.kept K fun b hb => h.dF b hb⟩, hv, h.bs, fun b hb => ⟨?_, hlt b hb⟩, fun b hb hm => ?_, fun b hb => ⟨fun hm => ?_, fun e => ?_⟩, h.xF, fun q hq => ?_, h.hp⟩
  · have := (h.dD b hb).1; omega
  · rcases hD b hb with h1 | h1
    · exact (h.dD b h1).1
    · have := h.own.keep.size; omega
  · rcases hD b hb with h1 | h1
    · exact h.dX b h1 hm
    · have := (h.ltX b hm).2; omega
  · rcases hD b hb with h1 | h1
    · exact (h.dF b h1).1 hm
    · have := (h.ltF b hm).2; omega
  · rcases hD b hb with h1 | h1
    · exact (h.dF b h1).2 e
    · have := h.ltp; omega
  · obtain ⟨a1, a2, a3, a4⟩ := h.lX q hq
    refine ⟨a1, fun hm => ?_, a3, a4⟩
    rcases hD _ hm with h1 | h1
    · exact a2 h1
    · have := (h.own.blk q hq).lt; omega
theorem TkAt.nowsame2 {f : Nat → Int → Option Value} (h : TkAt W base r gN nb mt f X nc kc m) (e : ∀ i, i < r → ∀ j : Nat, j < r → nc i j = nc' i j) (e2 : ∀ i, i < 3 → kc i = kc' i) : TkAt W base r gN nb mt f X nc' kc' m :=
  { h.nowsame e with kept := fun i hi a => by have := h.kept i hi a; rw [e2 i hi] at this; exact this }
theorem TS.same (h : TS w0 W L Iv base r gN nb mt X D F nc kc m rooms p mb lk mL base2) (e : ∀ i, i < r → ∀ j : Nat, j < r → nc i j = nc' i j) (e2 : ∀ i, i < 3 → kc i = kc' i) : TS w0 W L Iv base r gN nb mt X D F nc' kc' m rooms p mb lk mL base2 := by
  obtain ⟨f, ht⟩ := h.tk
  exact { h with tk := ⟨f, ht.nowsame2 e e2⟩ }
theorem TS.mono (h : TS w0 W L Iv base r gN nb mt X D F nc kc m rooms p mb lk mL base2) (hm : m ≤ m') (hL : mL ≤ mL') : TS w0 W L Iv base r gN nb mt X D F nc kc m' rooms p mb lk mL' base2 := by
  obtain ⟨f, ht⟩ := h.tk
  obtain ⟨fL, hl⟩ := h.la
  exact { h with tk := ⟨f, ht.mono hm⟩, la := ⟨fL, hl.mono hL⟩ }
end
end Go.Proofs.Ytakmcpadkanggaa
namespace Go.Proofs.Ytakmcpadkanggaa
open Go.RowKit Go.Maps Go.Deep
theorem Own.rebase {w0 w W : World} {L : List Ent} (O : Own w W [] L) (K : Keeps w0 w []) : Own w0 W [] L := ⟨K.trans O.keep (by simp), O.blk, fun e he hlt => O.new e he (Nat.lt_of_lt_of_le hlt K.size), O.nd⟩
def rowsZ (r : Nat) (nb : Nat → Nat) (k : Nat) : Array Value := (Array.range r).map fun i => if i < k then .slice (some ⟨nb i, 0, none⟩) r r else .slice none 0 0
theorem rowsZ_size (r : Nat) (nb : Nat → Nat) (k : Nat) : (rowsZ r nb k).size = r := by simp [rowsZ]
theorem rowsZ_set (r : Nat) (nb : Nat → Nat) (k g : Nat) : (rowsZ r nb k).setIfInBounds k (.slice (some ⟨g, 0, none⟩) r r) = rowsZ r (updN nb k g) (k + 1) := by
  apply Array.ext_getElem?
  intro i
  rw [Array.getElem?_setIfInBounds, rowsZ_size]
  by_cases hi : i < r
  · by_cases e : k = i
    · subst e; rw [if_pos rfl, if_pos hi]; simp [rowsZ, hi, updN]
    · rw [if_neg e]
      by_cases h2 : i < k
      · simp [rowsZ, hi, h2, show i < k + 1 by omega, updN, show ¬ i = k from fun q => e q.symm]
      · simp [rowsZ, hi, h2, show ¬ i < k + 1 by omega]
  · by_cases e : k = i
    · subst e; rw [if_pos rfl, if_neg hi]; simp [rowsZ, hi]
    · rw [if_neg e]; simp [rowsZ, hi]
theorem rowsZ_all (r : Nat) (nb : Nat → Nat) : rowsZ r nb r = rowsA r nb := by
  unfold rowsZ rowsA
  apply Array.ext_getElem?
  intro i
  by_cases hi : i < r
  · simp [hi]
  · simp [hi]
section
variable {ops : Array Oper} {rest : List Oper} {o : Oper} {a : Act} {w W : World} {Q : Exit → Act → World → Prop} {S : List Nat} {L : List Ent} {x : Operand}
theorem own_makeIK (d n : Nat) (O : Own w W S L) (_hd : o.dst = some d) (hgd : o.guard = none) (ho : o.op = .makeSlice 25 x x) (hx : a.eval x = .int .i64 (n : Int)) (hn : n ≤ 1000000)
    (h : ∀ u g, Own w u S ((g, 3, arrI n fun _ => 0) :: L) → Keeps W u [] → W.heap.size ≤ g → wpList Try.prog ops Q rest (a.put o.dst (.slice (some ⟨g, 0, none⟩) n n)) u) : wpList Try.prog ops Q (o :: rest) a W := by
  refine wpList_plain hgd fun K hK => ?_
  unfold Oper.wp execOp
  simp only [ho, hx, Sem.run_bind, run_make_row' 25 3 (.int .i64 0) 8 Try.underlying25 info3' rfl .i64 .i64 n (by omega) (by omega), Result.andThen_ok, Sem.run_pure]
  have k := (Keeps.refl W []).alloc (.cells (arrI n fun _ => 0) 3)
  refine hK _ _ ?_
  rw [made_I]
  exact h _ _ (O.add k (Blk.new _ _ _)) k (Nat.le_refl _)
theorem info25' : (Try.prog.info? 25).map (fun i => (i.zero, i.size, i.bytes)) = some (some (.slice none 0 0), 1, 24) := by kernel_rfl
theorem own_makeSK (d n : Nat) (O : Own w W S L) (_hd : o.dst = some d) (hgd : o.guard = none) (ho : o.op = .makeSlice 68 x x) (hx : a.eval x = .int .i64 (n : Int)) (hn : n ≤ 1000000)
    (h : ∀ u g, Own w u S ((g, 25, rowsZ n (fun _ => 0) 0) :: L) → Keeps W u [] → W.heap.size ≤ g → wpList Try.prog ops Q rest (a.put o.dst (.slice (some ⟨g, 0, none⟩) n n)) u) : wpList Try.prog ops Q (o :: rest) a W := by
  refine wpList_plain hgd fun K hK => ?_
  unfold Oper.wp execOp
  simp only [ho, hx, Sem.run_bind, run_make_row' 68 25 (.slice none 0 0) 24 Try.underlying68 info25' rfl .i64 .i64 n (by omega) (by omega), Result.andThen_ok, Sem.run_pure]
  have k := (Keeps.refl W []).alloc (.cells (rowsZ n (fun _ => 0) 0) 25)
  refine hK _ _ ?_
  have e : madeCells #[Value.slice none 0 0] n = rowsZ n (fun _ => 0) 0 := by
    apply Array.ext_getElem?
    intro j
    by_cases hj : j < n
    · simp [madeCells, rowsZ, hj, Nat.mod_one]
    · simp [madeCells, rowsZ, hj]
  rw [e]
  exact h _ _ (O.add k (Blk.new _ _ _)) k (Nat.le_refl _)
end
/-- The function is one of the program's own. -/
def FnOk (fn : Nat) : Prop := ∀ (args : Array Value) (w : World), (callFunc fn args).run Try.prog w = .ok (.enter fn args) w
theorem wpList_call_fn {ops : Array Oper} {rest : List Oper} {o : Oper} {a : Act} {W : World} {Q : Exit → Act → World → Prop} {x y0 y1 : Operand} {ats : Array TypeId} {fn : Nat} {caps : Array Value} (v0 v1 : Value) (hgd : o.guard = none) (ho : o.op = .call { callee := .value x, args := #[y0, y1], argTypes := ats }) (hx : a.eval x = .func (.func fn) #[] caps) (h0 : a.eval y0 = v0) (h1 : a.eval y1 = v1) (hf : FnOk fn)
    (h : Calls Try.prog fn (#[v0, v1] ++ caps) W fun e u => ∃ v, e = .returned v ∧ wpList Try.prog ops Q rest (a.put o.dst v) u) : wpList Try.prog ops Q (o :: rest) a W := by
  refine wpList_plain hgd fun K hK => ?_
  have hr : (execOp a.eval o).run Try.prog W = .ok (.enter fn (#[v0, v1] ++ caps)) W := by
    unfold execOp
    simp only [ho, resolve, hx, Deferred.ofValue, invoke, Sem.run_bind, Sem.run_pure, Result.andThen_ok, List.map_toArray, List.map_cons, List.map_nil, h0, h1, Array.empty_append]
    exact hf (#[v0, v1] ++ caps) W
  unfold Oper.wp
  rw [hr, Oper.upon_enter]
  exact h.mono fun e u ⟨v, he, hw⟩ => by subst he; exact hK _ _ hw
section
variable {w0 w : World} {S : Sys} {A : Option Addr} {c : Nat} {R : Option Addr} {d m r : Nat} {E : Nat → Ev} {B : Option Addr} {cb : Nat}
/-- The beginning. -/
theorem ts_start {W u : World} {Iv : World → List Nat → Prop} {gN b4 p : Nat} {nb mt : Nat → Nat} {F D0 : List Nat} {mb : Nat → Nat} {fL : Nat → Int → Option Value} {rm : Int → Int} {rooms : Value} (K0 : Keeps w0 w []) (O : Own w W [] [(gN, 25, rowsA r nb), (b4, 27, sysV S A c R d)]) (hI : IvOk w0 Iv) (h0 : Iv w D0) (hD0 : ∀ b ∈ D0, w0.heap.size ≤ b ∧ b < w.heap.size)
    (hgN : w.heap.size ≤ gN) (hb4 : w.heap.size ≤ b4) (hb4g : b4 < gN) (hrow : ∀ i, i < r → ClkAt W (nb i) r (fun _ => 0) ∧ b4 < nb i) (hne : ∀ i j, i < r → j < r → i ≠ j → nb i ≠ nb j)
    (hmt : ∀ i, i < 3 → MapV W (mt i) 0 (fun _ => none) ∧ b4 < mt i) (hmn : ∀ i j, i < 3 → j < 3 → i ≠ j → mt i ≠ mt j) (KW : Keeps W u []) (LA : LinksAt u F rooms p mb fL lk0 0 W.heap.size) (hp : W.heap.size ≤ p) :
    ∃ X, TS w0 u [(b4, 27, sysV S A c R d)] Iv w.heap.size r gN nb mt X D0 F (nowN E rm 0) (tkC E rm r 0) 0 rooms p mb lk0 0 W.heap.size := by
  have hw := K0.size
  have hgl := (O.get 0 rfl).lt
  have hbl := (O.get 1 rfl).lt
  have hX : ∀ b ∈ gN :: mt 0 :: mt 1 :: mt 2 :: (List.range r).map nb, b4 < b ∧ b < W.heap.size := fun b hb => by
    simp only [List.mem_cons, List.mem_map, List.mem_range] at hb
    rcases hb with rfl | rfl | rfl | rfl | ⟨i, hi, rfl⟩
    · exact ⟨hb4g, hgl⟩
    · exact ⟨(hmt 0 (by decide)).2, (hmt 0 (by decide)).1.lt⟩
    · exact ⟨(hmt 1 (by decide)).2, (hmt 1 (by decide)).1.lt⟩
    · exact ⟨(hmt 2 (by decide)).2, (hmt 2 (by decide)).1.lt⟩
    · exact ⟨(hrow i hi).2, (hrow i hi).1.lt⟩
  have hF : ∀ b ∈ F, W.heap.size ≤ b := fun b hb => (LA.ltF b hb).1
  have hkn : ∀ i a, rowV (fun _ _ => none) i a = Value.slice none 0 0 := fun _ _ => rfl
  refine ⟨gN :: mt 0 :: mt 1 :: mt 2 :: (List.range r).map nb, ((O.rebase K0).drop_ 1).keeps KW, ⟨fun _ _ => none, (O.get 0 rfl).keeps KW (by simp), fun i hi => ?_, fun i hi => (hmt i hi).1.keeps KW (by simp), fun i hi a => ?_, by simp, fun i hi => ?_, fun i hi => ?_, (fun i hi a g hg => by cases hg), fun b hb => ⟨by have := (hX b hb).1; omega, by have := (hX b hb).2; have := KW.size; omega⟩, hne, hmn, (fun i hi a g hg => by cases hg)⟩, ⟨fL, LA⟩, hI _ _ _ _ h0 (O.keep.trans KW (by simp)) (by simp), ⟨hw, by omega⟩, fun b hb => ⟨(hD0 b hb).1, by have := (hD0 b hb).2; have := KW.size; omega⟩, fun b hb hm => ?_, fun b hb => ⟨fun hm => ?_, fun e => ?_⟩, fun b hb => ⟨fun hm => ?_, fun e => ?_⟩, fun q hq => ?_, by omega⟩
  · refine ((hrow i hi).1.keeps KW (by simp)).same fun j hj => ?_
    rfl
  · rw [hkn]
    have e : tkC E rm r 0 i a = [] := by
      unfold tkC
      split
      · rw [if_neg (by omega)]
      · split
        · rw [if_pos (by simp [pickL])]
        · rw [if_pos (by simp [freeL, pickL])]
    rw [e]
    exact HRow.nil _ _
  · simp only [List.mem_cons, List.mem_map, List.mem_range]
    exact .inr (.inr (.inr (.inr ⟨i, hi, rfl⟩)))
  · match i, hi with
    | 0, _ => simp
    | 1, _ => simp
    | 2, _ => simp
  · have := (hD0 b hb).2; have := (hX b hm).1; omega
  · have := (hD0 b hb).2; have := hF b hm; omega
  · have := (hD0 b hb).2; omega
  · have := (hX b hb).2; have := hF b hm; omega
  · have := (hX b hb).2; omega
  · rw [List.mem_singleton.1 hq]
    refine ⟨fun hm => ?_, fun hm => ?_, fun hm => ?_, fun e => ?_⟩
    · have := (hX _ hm).1; omega
    · have := (hD0 _ hm).2; simp only at this; omega
    · have := hF _ hm; simp only at this; omega
    · simp only at e; omega
def SeePost (Iv : World → List Nat → Prop) (b : Bool) (u : World) (D : List Nat) (e : Ending) (u' : World) : Prop :=
  e = .returned (.bool b) ∧ (∃ D', Iv u' D' ∧ (∀ q ∈ D', q ∈ D ∨ u.heap.size ≤ q) ∧ ∀ q ∈ D', q < u'.heap.size) ∧ Keeps u u' D
def TicksPost (Inv : Nat → World → List Nat → Prop) (cont : Nat → Bool) (w0 : World) (m : Nat) (e : Ending) (u : World) : Prop :=
  e = .returned (.tuple #[]) ∧ Keeps w0 u [] ∧ ∃ k D, Inv k u D ∧ ((k = m ∧ ∀ i, i < m → cont i = true) ∨ ∃ i, k = i + 1 ∧ i < m ∧ cont i = false ∧ ∀ q, q < i → cont q = true)
set_option maxRecDepth 100000 in
set_option maxHeartbeats 4000000 in
theorem ticks_any (fn : Nat) (caps : Array Value) (Inv : Nat → World → List Nat → Prop) (cont : Nat → Bool) (D0 : List Nat) (K0 : Keeps w0 w []) (hS : SysIn w0 S A c R d) (hE : EvsAt w0 B m E) (hrm : ∀ q, q < S.nr → 1 ≤ S.rm q ∧ S.rm q ≤ 1000000) (hok : OkAll S E m) (hm : m ≤ 40000) (hwf : ∀ i, i < m → (Lit.int .i64 (E i).a).wf = true)
    (hr : (stN E m).r ≤ r) (hr2 : r ≤ 1000000) (hfn : FnOk fn) (hI : ∀ k, IvOk w0 (Inv k)) (h0 : Inv 0 w D0) (hD0 : ∀ b ∈ D0, w0.heap.size ≤ b ∧ b < w.heap.size)
    (hC : ∀ k, k < m → ∀ u D g, Inv k u D → g ∉ D → ClkAt u g r (clk E (rmS S) k) → Calls Try.prog fn (#[.int .i64 (k : Int), .slice (some ⟨g, 0, none⟩) r r] ++ caps) u (SeePost (Inv (k + 1)) (cont k) u D)) :
    Calls Try.prog 72 #[.agg (sysV S A c R d), .slice B m cb, .int .i64 (r : Int), .func (.func fn) #[] caps] w (TicksPost Inv cont w0 m) := by
  have O := Own.start w []
  have HE := Lib.hid hE
  have HS := Lib.hid hS
  have HK0 := Lib.hid K0
  have HI := Lib.hid hI
  have H0 := Lib.hid h0
  have HD0 := Lib.hid hD0
  have HOK := Lib.hid hok
  have HRM := Lib.hid hrm
  have HWF := Lib.hid hwf
  have HR := Lib.hid hr
  have HC := Lib.hid hC
  have HFN := Lib.hid hfn
  clear hE hS K0 hI h0 hD0 hok hrm hwf hr hC hfn
  go_enter Try.func72, Try.ntmps72
  go_wp2_with (first
    | (have hws := O.keep.size; refine own_boxK 4 (sysV S A c R d) O rfl rfl rfl rfl ?_; clear O; intro W b4 O K hb; have HB4 := Lib.hid (Nat.le_trans hws hb); clear hb K hws; simp only [Act.put, List.setIfInBounds_toArray, List.set_cons_zero, List.set_cons_succ])
    | (have hws := O.keep.size; have hb4 := O.lt 0 rfl; refine own_makeSK 20 r O rfl rfl rfl rfl hr2 ?_; clear O; intro W gN O K hb; have HGN := Lib.hid (And.intro (Nat.le_trans hws hb) (show b4 < gN by omega)); clear K hb hws hb4; simp only [Act.put, List.setIfInBounds_toArray, List.set_cons_zero, List.set_cons_succ]))
  go_loopg [23] r (fun g s23 wr => ∃ (k : Nat) (nb : Nat → Nat), k ≤ r ∧ g = r - k ∧ s23 = .int .i64 (k : Int) ∧ Own w wr [] [(gN, 25, rowsZ r nb k), (b4, 27, sysV S A c R d)] ∧ (∀ i, i < k → ClkAt wr (nb i) r (fun _ => 0) ∧ b4 < nb i) ∧ ∀ i j, i < k → j < k → i ≠ j → nb i ≠ nb j)
  case atStart => exact ⟨0, fun _ => 0, by omega, by omega, rfl, O, fun i hi => by omega, fun i j hi => by omega⟩
  case round =>
    obtain ⟨k, nb, hk, hgk, rfl, O, hrow, hne⟩ := hrel
    have HG := Lib.hid hgk
    have HROW := Lib.hid hrow
    have HNE := Lib.hid hne
    clear hgk hrow hne
    by_cases hlt : k < r
    · have g1 : (k : Int) < r := by omega
      have g0 : (0 : Int) ≤ k := by omega
      go_wp2_with (first
        | (have hb4 := O.lt 1 rfl; refine own_makeIK 29 r O rfl rfl rfl rfl hr2 ?_; clear O; intro W g O K hb; have HG2 := Lib.hid (And.intro (show b4 < g by omega) (fun i (hi : i < k) => (show ClkAt W (nb i) r (fun _ => 0) ∧ nb i < g from ⟨(HROW.out i hi).1.keeps K (by simp), by have := (HROW.out i hi).1.lt; omega⟩))); clear K hb hb4; simp only [Act.put, List.setIfInBounds_toArray, List.set_cons_zero, List.set_cons_succ])
        | (refine wpList_store_blk gN k 25 (rowsZ r nb k) (.slice (some ⟨g, 0, none⟩) r r) rfl rfl rfl rfl rfl (O.get 1 rfl) (by rw [rowsZ_size]; exact hlt) rfl rfl (by kernel_rfl) ?_; intro W2 K B; have hbn := blk_ne (O.get 0 rfl) (O.get 1 rfl) (by decide); rw [rowsZ_set] at B; have O2 := (O.set 1 rfl K B).drop_ 1; have hg0 := (O.get 0 rfl).keeps K (by simpa using hbn); have HN := Lib.hid (show (∀ i, i < k + 1 → ClkAt W2 (updN nb k g i) r (fun _ => 0) ∧ b4 < updN nb k g i) ∧ ∀ i j, i < k + 1 → j < k + 1 → i ≠ j → updN nb k g i ≠ updN nb k g j from ⟨fun i hi => by
            unfold updN
            by_cases e : i = k
            · rw [if_pos e]; exact ⟨⟨_, hg0, CurI.arr _ _⟩, HG2.out.1⟩
            · rw [if_neg e]
              obtain ⟨cur, hb, hc⟩ := (HG2.out.2 i (by omega)).1
              exact ⟨⟨cur, hb.keeps K (by simpa using blk_ne hb (O.get 1 rfl) (by decide)), hc⟩, (HROW.out i (by omega)).2⟩, fun i j hi hj hij => by
            unfold updN
            by_cases e : i = k
            · rw [if_pos e, if_neg (by omega)]; have := (HG2.out.2 j (by omega)).2; omega
            · rw [if_neg e]
              by_cases e2 : j = k
              · rw [if_pos e2]; have := (HG2.out.2 i (by omega)).2; omega
              · rw [if_neg e2]; exact HNE.out i j (by omega) (by omega) hij⟩); clear K B hbn hg0 O))
      go_roundg (r - (k + 1))
      case measure => (have := HG.out; omega)
      case rel => exact ⟨k + 1, updN nb k g, by omega, rfl, by go_num, O2, HN.out.1, HN.out.2⟩
    · obtain rfl : r = k := by omega
      clear HG
      rw [rowsZ_all] at O
      go_wp2_with (first
        | (have hb4 := O.lt 1 rfl; refine at_dst 32 rfl ?_; refine own_makeMapV 32 O rfl rfl rfl ?_; clear O; intro W m0 O K M hb; have HR0 := Lib.hid (fun i (hi : i < r) => (HROW.out i hi).1.keeps K (by simp)); have hm0 : b4 < m0 := (by omega); clear K hb hb4; simp only [Act.put, List.setIfInBounds_toArray, List.set_cons_zero, List.set_cons_succ])
        | (have hl0 := M.lt; refine at_dst 33 rfl ?_; refine own_makeMapV 33 O rfl rfl rfl ?_; clear O; intro W m1 O K M1 hb; replace M := M.keeps K (by simp); have HR1 := Lib.hid (fun i (hi : i < r) => (HR0.out i hi).keeps K (by simp)); have hm1 : m0 < m1 := (by omega); clear K hb hl0 HR0; simp only [Act.put, List.setIfInBounds_toArray, List.set_cons_zero, List.set_cons_succ])
        | (have hl1 := M1.lt; refine at_dst 34 rfl ?_; refine own_makeMapV 34 O rfl rfl rfl ?_; clear O; intro W m2 O K M2 hb; replace M := M.keeps K (by simp); replace M1 := M1.keeps K (by simp); have HR2 := Lib.hid (fun i (hi : i < r) => (HR1.out i hi).keeps K (by simp)); have hm2 : m1 < m2 := (by omega); clear K hb hl1 HR1; simp only [Act.put, List.setIfInBounds_toArray, List.set_cons_zero, List.set_cons_succ])
        | (refine own_load 35 1 O rfl rfl rfl rfl rfl Try.underlying27 rfl (by kernel_rfl) ?_; simp only [Act.put, List.setIfInBounds_toArray, List.set_cons_zero, List.set_cons_succ])
        | (go_at_call 69; refine newLinks_any.mono ?_; rintro e W' ⟨⟨p, F, mb, fL, rfl, LA, hp⟩, K⟩; obtain ⟨mt, q0, q1, q2⟩ : ∃ mt : Nat → Nat, mt 0 = m0 ∧ mt 1 = m1 ∧ mt 2 = m2 := ⟨fun i => [m0, m1, m2].getD i 0, rfl, rfl, rfl⟩; subst q0 q1 q2; obtain ⟨X, T⟩ := ts_start (E := E) (rm := rmS S) HK0.out O (HI.out 0) H0.out HD0.out HGN.out.1 HB4.out HGN.out.2 (fun i hi => ⟨HR2.out i hi, (HROW.out i hi).2⟩) HNE.out (fun i hi => match i, hi with | 0, _ => ⟨M, hm0⟩ | 1, _ => ⟨M1, by omega⟩ | 2, _ => ⟨M2, by omega⟩) (fun i j hi hj hij => by match i, hi, j, hj with | 0, _, 0, _ => omega | 0, _, 1, _ => omega | 0, _, 2, _ => omega | 1, _, 0, _ => omega | 1, _, 1, _ => omega | 1, _, 2, _ => omega | 2, _, 0, _ => omega | 2, _, 1, _ => omega | 2, _, 2, _ => omega) K LA hp; clear O K LA hp M M1 M2 hm0 hm1 hm2 HR2))
      clear HROW HNE HGN HB4
      obtain ⟨base2, hb2⟩ : ∃ b, b = W.heap.size := ⟨_, rfl⟩
      rw [← hb2] at T
      clear hb2
      go_loopg [39] m (fun g s39 wr => ∃ (k : Nat) (X D F : List Nat) (q mL : Nat), k ≤ m ∧ g = m - k ∧ s39 = .int .i64 (k : Int) ∧ TS w0 wr [(b4, 27, sysV S A c R d)] (Inv k) w.heap.size r gN nb mt X D F (nowN E (rmS S) k) (tkC E (rmS S) r k) q (.slice R S.nr d) p mb (lkT E k) mL base2 ∧ q ≤ k ∧ mL ≤ 2 * k ∧ ∀ i, i < k → cont i = true)
      case atStart => exact ⟨0, X, D0, F, 0, 0, by omega, by omega, rfl, T, by omega, by omega, fun i hi => by omega⟩
      case round =>
        clear T
        obtain ⟨k, X, D, F, q, mL, hk, hgk, rfl, T, hq, hmL, hct⟩ := hrel
        have HG := Lib.hid hgk
        have HCT := Lib.hid hct
        clear hgk hct
        by_cases hlt : k < m
        · have g1 : (k : Int) < m := by omega
          have g0 : (0 : Int) ≤ k := by omega
          obtain ⟨ad, rfl, hc⟩ := EvsAt.row (u := w0) HE.out hlt
          have HCE := Lib.hid hc
          have hok := HOK.out k hlt
          have HOKk := Lib.hid hok
          obtain ⟨hw1, hw2, _⟩ := ok_head hok
          obtain ⟨wn, hwn⟩ : ∃ wn : Nat, (E k).who = (wn : Int) := ⟨(E k).who.toNat, by omega⟩
          have hwr : wn < r := by
            have := stN_r_mono E (show k ≤ m by omega)
            have := HR.out
            omega
          have HWN := Lib.hid hwn
          obtain ⟨e, he⟩ : ∃ e, e = E k := ⟨_, rfl⟩
          have HEK := Lib.hid he
          rw [← he] at hc HCE hwn
          clear hc hok hw1 hw2
          obtain ⟨who, op, a, v, sh⟩ := e
          simp only at hwn
          subst hwn
          have g2 : (wn : Int) < r := by omega
          have g3 : (0 : Int) ≤ wn := by omega
          clear he
          go_upto_block 4 with (first
            | (refine wpList_load_at 43 rfl rfl rfl rfl (HCE.out [] _ T.own.keep (by simp)) Try.underlying37 rfl (by kernel_rfl) ?_; simp only [Act.put, List.setIfInBounds_toArray, List.set_cons_zero, List.set_cons_succ])
            | (refine own_allocK 15 (evC ⟨0, 0, 0, 0, false⟩) T.own rfl rfl rfl (fun _ => by kernel_rfl) ?_; intro W1 b15 O K1 hb; replace T := T.add (HI.out k) K1 O hb; clear O K1 hb; simp only [Act.put, List.setIfInBounds_toArray, List.set_cons_zero, List.set_cons_succ])
            | (refine own_store_rowK 0 (.tmp 15) (.tmp 43) T.own rfl rfl rfl rfl rfl rfl (by kernel_rfl) (by rfl) (evC_cell _) ?_; intro W2 O K2; simp only [List.set_cons_zero] at O; replace T := T.wrote (HI.out k) K2 O ⟨(b15, 37, evC ⟨0, 0, 0, 0, false⟩), by simp, rfl⟩ rfl; clear O K2; have c15 : ∀ i : Nat, W2.cell? ⟨b15, i, none⟩ = #[Value.int .i64 (wn : Int), .int .i64 op, .int .i64 a, .int .i64 v, .bool sh][i]? := (T.own.get 0 rfl).cell; have cN : W2.cell? ⟨gN, wn, none⟩ = some (.slice (some ⟨nb wn, 0, none⟩) r r) := (by obtain ⟨f, ht⟩ := T.tk; exact (ht.now.cell wn).trans (rowsA_get _ _ _ hwr))))
          go_cut [] (fun wx => ∃ F2, TS w0 wx [(b15, 37, evC ⟨(wn : Int), op, a, v, sh⟩), (b4, 27, sysV S A c R d)] (Inv k) w.heap.size r gN nb mt X D F2 (updN (nowN E (rmS S) k) wn (mxC E (rmS S) (intoL E (rmS S) k))) (tkC E (rmS S) r k) q (.slice R S.nr d) p mb (lkT E (k + 1)) (mL + 2) base2)
          case first =>
            have HML := Lib.hid (show mL ≤ 80000 by omega)
            have HWW := Lib.hid (wf_small (n := (wn : Int)) (by omega) (by omega))
            have HWA := Lib.hid (by have := HWF.out k hlt; rwa [← HEK.out] at this : (Lit.int .i64 a).wf = true)
            by_cases o11 : op = 11
            · subst o11
              have HLQ := Lib.hid (show ownK (lkT E k) (wn : Int) (k : Int) = lkT E (k + 1) by rw [lkT, if_pos (by rw [← HEK.out]; rfl), ← HEK.out])
              have HLW := Lib.hid (wait_now (E := E) (rm := rmS S) (r := r) (j := k) (by rw [← HEK.out]))
              rw [← HEK.out] at HLW
              obtain ⟨f, ht⟩ := T.tk
              obtain ⟨A1, q1, e1, _⟩ := (ht.kept 1 (by decide) (a)).shape
              have hR := ht.kept 1 (by decide) (a)
              obtain ⟨xs, hxs⟩ : ∃ xs, xs = tkC E (rmS S) r k 1 (a) := ⟨_, rfl⟩
              obtain ⟨n1, hn1⟩ : ∃ n, n = xs.length := ⟨_, rfl⟩
              have HXL := Lib.hid (show xs.length ≤ r by rw [hxs]; rcases tkC_len E (rmS S) r k 1 (a) with h | h <;> rw [h] <;> simp)
              rw [← hxs, ← hn1] at e1
              rw [← hxs] at hR
              have HNB := Lib.hid (show ∀ g, (Value.slice A1 n1 q1).ownBlock = some g → nb wn ≠ g from fun g hg => ht.nbk 1 (by decide) (a) g (by rw [e1]; exact hg) wn hwr)
              rw [e1] at hR
              have lk : (Instr.lookup 159 (.map (some (mt 1))) (.int .i64 (a)) false).run Try.prog W2 = .ok (.slice A1 n1 q1) W2 := by
                have := look_eqV (ht.maps 1 (by decide)) 159 25 (.slice none 0 0) Try.underlying159 (zero25 _) (a) HWA.out
                rwa [show (f 1 (a)).getD (.slice none 0 0) = .slice A1 n1 q1 from e1] at this
              have HXS := Lib.hid hxs
              clear e1 hxs hn1 ht f
              have HLN := Lib.hid (show ∀ w : Nat, w < r → jmax (nowN E (rmS S) k wn) xs xs.length (w : Int) = mxC E (rmS S) (intoL E (rmS S) k) (w : Int) by rw [HXS.out]; exact HLW.out)
              clear HLW
              go_wp2_with (first
                | (refine own_litS 74 (.slice A1 n1 q1) T.own rfl rfl rfl rfl rfl ?_; clear lk; intro W3 gl O K hgl; replace T := T.add (HI.out k) K O hgl; replace hR := hR.keeps K (by simp); clear O K hgl; simp only [Act.put, List.setIfInBounds_toArray, List.set_cons_zero, List.set_cons_succ])
                | (go_at_call 99; obtain ⟨f3, ht3⟩ := T.tk; obtain ⟨cur, hBv, hcv⟩ := ht3.rows wn hwr; refine (joined_any hBv hcv (T.own.get 0 rfl) (by have := hR.listL.1; exact this) (HXL.out) hr2 (fun ad n q hv hn => ?_)).mono ?_; (· (exact fun e => HNB.out ad.block (by rw [hv]; rfl) e.symm)); rintro e W4 ⟨rfl, ⟨cu2, hB2, hs2, hc2⟩, K⟩; have T2 := (T.tick (HI.out k) (K.wide (L' := X) (fun b hb => by rw [List.mem_singleton.1 hb]; exact ht3.nX wn hwr)) (ht3.setNow hwr K ⟨cu2, hB2, hc2⟩) (fun b hb => .inl hb)).drop_ 1; clear T; have T := T2; clear T2 ht3 f3 hBv hcv hB2 hs2 hc2 K; have c15 : ∀ i : Nat, W4.cell? ⟨b15, i, none⟩ = #[Value.int .i64 (wn : Int), .int .i64 11, .int .i64 a, .int .i64 v, .bool sh][i]? := (T.own.get 0 rfl).cell)
                | (refine own_load 78 0 T.own rfl rfl rfl rfl rfl Try.underlying37 rfl (by kernel_rfl) ?_; simp only [Act.put, List.setIfInBounds_toArray, List.set_cons_zero, List.set_cons_succ])
                | (go_at_call 94; obtain ⟨fL, hl⟩ := T.la; refine (own_any hl HWW.out (by have := HML.out; simp only [maxLen]; omega)).mono ?_; rintro e W5 ⟨rr, rfl, _, LA, K⟩; have T2 := T.link (HI.out k) (K.wide (L' := F) (fun b hb => by rw [List.mem_singleton.1 hb]; exact hl.inM 4 (by decide))) LA (fun b hb => .inl hb); clear T; have T := T2; clear T2 LA K hl fL))
              go_meet
              exact ⟨_, (by have T3 := T.same (nc' := updN (nowN E (rmS S) k) wn (mxC E (rmS S) (intoL E (rmS S) k))) (kc' := tkC E (rmS S) r k) (fun i hi j hj => by by_cases e : i = wn; (· (subst e; simp only [updN, if_true]; exact HLN.out j hj)); (· (simp only [updN, if_neg e]))) (fun i hi => rfl); rw [HLQ.out] at T3; exact T3.mono (Nat.le_refl _) (by omega))⟩
            by_cases o8 : op = 8
            · subst o8
              have HLQ := Lib.hid (show ownK (lkT E k) (wn : Int) (k : Int) = lkT E (k + 1) by rw [lkT, if_pos (by rw [← HEK.out]; rfl), ← HEK.out])
              have HLW := Lib.hid (lock_now (E := E) (rm := rmS S) (r := r) (j := k) (by rw [← HEK.out]))
              rw [← HEK.out] at HLW
              obtain ⟨f, ht⟩ := T.tk
              obtain ⟨A1, q1, e1, _⟩ := (ht.kept 2 (by decide) (a)).shape
              have hR := ht.kept 2 (by decide) (a)
              obtain ⟨xs, hxs⟩ : ∃ xs, xs = tkC E (rmS S) r k 2 (a) := ⟨_, rfl⟩
              obtain ⟨n1, hn1⟩ : ∃ n, n = xs.length := ⟨_, rfl⟩
              have HXL := Lib.hid (show xs.length ≤ r by rw [hxs]; rcases tkC_len E (rmS S) r k 2 (a) with h | h <;> rw [h] <;> simp)
              rw [← hxs, ← hn1] at e1
              rw [← hxs] at hR
              have HNB := Lib.hid (show ∀ g, (Value.slice A1 n1 q1).ownBlock = some g → nb wn ≠ g from fun g hg => ht.nbk 2 (by decide) (a) g (by rw [e1]; exact hg) wn hwr)
              rw [e1] at hR
              have lk : (Instr.lookup 159 (.map (some (mt 2))) (.int .i64 (a)) false).run Try.prog W2 = .ok (.slice A1 n1 q1) W2 := by
                have := look_eqV (ht.maps 2 (by decide)) 159 25 (.slice none 0 0) Try.underlying159 (zero25 _) (a) HWA.out
                rwa [show (f 2 (a)).getD (.slice none 0 0) = .slice A1 n1 q1 from e1] at this
              have HXS := Lib.hid hxs
              clear e1 hxs hn1 ht f
              have HLN := Lib.hid (show ∀ w : Nat, w < r → jmax (nowN E (rmS S) k wn) xs xs.length (w : Int) = mxC E (rmS S) (intoL E (rmS S) k) (w : Int) by rw [HXS.out]; exact HLW.out)
              clear HLW
              go_wp2_with (first
                | (refine own_litS 87 (.slice A1 n1 q1) T.own rfl rfl rfl rfl rfl ?_; clear lk; intro W3 gl O K hgl; replace T := T.add (HI.out k) K O hgl; replace hR := hR.keeps K (by simp); clear O K hgl; simp only [Act.put, List.setIfInBounds_toArray, List.set_cons_zero, List.set_cons_succ])
                | (go_at_call 99; obtain ⟨f3, ht3⟩ := T.tk; obtain ⟨cur, hBv, hcv⟩ := ht3.rows wn hwr; refine (joined_any hBv hcv (T.own.get 0 rfl) (by have := hR.listL.1; exact this) (HXL.out) hr2 (fun ad n q hv hn => ?_)).mono ?_; (· (exact fun e => HNB.out ad.block (by rw [hv]; rfl) e.symm)); rintro e W4 ⟨rfl, ⟨cu2, hB2, hs2, hc2⟩, K⟩; have T2 := (T.tick (HI.out k) (K.wide (L' := X) (fun b hb => by rw [List.mem_singleton.1 hb]; exact ht3.nX wn hwr)) (ht3.setNow hwr K ⟨cu2, hB2, hc2⟩) (fun b hb => .inl hb)).drop_ 1; clear T; have T := T2; clear T2 ht3 f3 hBv hcv hB2 hs2 hc2 K; have c15 : ∀ i : Nat, W4.cell? ⟨b15, i, none⟩ = #[Value.int .i64 (wn : Int), .int .i64 8, .int .i64 a, .int .i64 v, .bool sh][i]? := (T.own.get 0 rfl).cell)
                | (refine own_load 91 0 T.own rfl rfl rfl rfl rfl Try.underlying37 rfl (by kernel_rfl) ?_; simp only [Act.put, List.setIfInBounds_toArray, List.set_cons_zero, List.set_cons_succ])
                | (go_at_call 94; obtain ⟨fL, hl⟩ := T.la; refine (own_any hl HWW.out (by have := HML.out; simp only [maxLen]; omega)).mono ?_; rintro e W5 ⟨rr, rfl, _, LA, K⟩; have T2 := T.link (HI.out k) (K.wide (L' := F) (fun b hb => by rw [List.mem_singleton.1 hb]; exact hl.inM 4 (by decide))) LA (fun b hb => .inl hb); clear T; have T := T2; clear T2 LA K hl fL))
              go_meet
              exact ⟨_, (by have T3 := T.same (nc' := updN (nowN E (rmS S) k) wn (mxC E (rmS S) (intoL E (rmS S) k))) (kc' := tkC E (rmS S) r k) (fun i hi j hj => by by_cases e : i = wn; (· (subst e; simp only [updN, if_true]; exact HLN.out j hj)); (· (simp only [updN, if_neg e]))) (fun i hi => rfl); rw [HLQ.out] at T3; exact T3.mono (Nat.le_refl _) (by omega))⟩
            by_cases o10 : op = 10
            · subst o10
              have HLQ := Lib.hid (show ownK (lkT E k) (wn : Int) (k : Int) = lkT E (k + 1) by rw [lkT, if_pos (by rw [← HEK.out]; rfl), ← HEK.out])
              have HLN := Lib.hid (show ∀ w : Nat, w < r → nowN E (rmS S) k wn (w : Int) = mxC E (rmS S) (intoL E (rmS S) k) (w : Int) from fun w hw => by
                have := own_now (E := E) (rm := rmS S) (r := r) (j := k) (by rw [← HEK.out]; first | exact .inl rfl | exact .inr rfl) w hw
                rw [← HEK.out] at this
                exact this)
              go_wp2_with (first
                | (refine own_load 98 0 T.own rfl rfl rfl rfl rfl Try.underlying37 rfl (by kernel_rfl) ?_; simp only [Act.put, List.setIfInBounds_toArray, List.set_cons_zero, List.set_cons_succ])
                | (go_at_call 94; obtain ⟨fL, hl⟩ := T.la; refine (own_any hl HWW.out (by have := HML.out; simp only [maxLen]; omega)).mono ?_; rintro e W5 ⟨rr, rfl, _, LA, K⟩; have T2 := T.link (HI.out k) (K.wide (L' := F) (fun b hb => by rw [List.mem_singleton.1 hb]; exact hl.inM 4 (by decide))) LA (fun b hb => .inl hb); clear T; have T := T2; clear T2 LA K hl fL))
              go_meet
              exact ⟨_, (by have T3 := T.same (nc' := updN (nowN E (rmS S) k) wn (mxC E (rmS S) (intoL E (rmS S) k))) (kc' := tkC E (rmS S) r k) (fun i hi j hj => by by_cases e : i = wn; (· (subst e; simp only [updN, if_true]; exact HLN.out j hj)); (· (simp only [updN, if_neg e]))) (fun i hi => rfl); rw [HLQ.out] at T3; exact T3.mono (Nat.le_refl _) (by omega))⟩
            by_cases o9 : op = 9
            · subst o9
              have HLQ := Lib.hid (show ownK (lkT E k) (wn : Int) (k : Int) = lkT E (k + 1) by rw [lkT, if_pos (by rw [← HEK.out]; rfl), ← HEK.out])
              have HLN := Lib.hid (show ∀ w : Nat, w < r → nowN E (rmS S) k wn (w : Int) = mxC E (rmS S) (intoL E (rmS S) k) (w : Int) from fun w hw => by
                have := own_now (E := E) (rm := rmS S) (r := r) (j := k) (by rw [← HEK.out]; first | exact .inl rfl | exact .inr rfl) w hw
                rw [← HEK.out] at this
                exact this)
              go_wp2_with (first
                | (refine own_load 98 0 T.own rfl rfl rfl rfl rfl Try.underlying37 rfl (by kernel_rfl) ?_; simp only [Act.put, List.setIfInBounds_toArray, List.set_cons_zero, List.set_cons_succ])
                | (go_at_call 94; obtain ⟨fL, hl⟩ := T.la; refine (own_any hl HWW.out (by have := HML.out; simp only [maxLen]; omega)).mono ?_; rintro e W5 ⟨rr, rfl, _, LA, K⟩; have T2 := T.link (HI.out k) (K.wide (L' := F) (fun b hb => by rw [List.mem_singleton.1 hb]; exact hl.inM 4 (by decide))) LA (fun b hb => .inl hb); clear T; have T := T2; clear T2 LA K hl fL))
              go_meet
              exact ⟨_, (by have T3 := T.same (nc' := updN (nowN E (rmS S) k) wn (mxC E (rmS S) (intoL E (rmS S) k))) (kc' := tkC E (rmS S) r k) (fun i hi j hj => by by_cases e : i = wn; (· (subst e; simp only [updN, if_true]; exact HLN.out j hj)); (· (simp only [updN, if_neg e]))) (fun i hi => rfl); rw [HLQ.out] at T3; exact T3.mono (Nat.le_refl _) (by omega))⟩
            have q8 : (op == 8) = false := by simpa using o8
            have q9 : (op == 9) = false := by simpa using o9
            have q10 : (op == 10) = false := by simpa using o10
            have q11 : (op == 11) = false := by simpa using o11
            have HQE := Lib.hid (show quietE (E k) = false by rw [← HEK.out]; simp [quietE, q8, q9, q10, q11])
            have HLQ := Lib.hid (show nextK (lkT E k) (k : Int) ⟨(wn : Int), op, a, v, sh⟩ = lkT E (k + 1) by rw [lkT, if_neg (by rw [HQE.out]; decide), ← HEK.out])
            have HIN := Lib.hid (show scL (nextR (lkT E k) (rmS S) ⟨(wn : Int), op, a, v, sh⟩) = intoL E (rmS S) k by unfold intoL; rw [← HEK.out, nextR_eq (lkT_eq E k) _ _ o8 o11])
            have HNX := Lib.hid (fun u (K : Keeps w0 u []) F fL (hl : LinksAt u F (.slice R S.nr d) p mb fL (lkT E k) mL base2) (hb : w0.heap.size ≤ base2) => (by
              have := lnextE HS.out K HRM.out (by omega) HOKk.out (HWF.out k hlt) hl (by omega) (fun i a => by have := lkT_len E i a k; omega) (fun h6 hs => by rw [(lkT_eq E k).1, (lkT_eq E k).2.1, lk_r0, lk_r1, natL_length, natL_length]; exact ok_take HOKk.out h6 hs) hb
              rwa [← HEK.out] at this : Calls Try.prog 70 #[.pointer (some ⟨p, 0, none⟩), .int .i64 (k : Int), .agg (evC ⟨(wn : Int), op, a, v, sh⟩)] u (LNextE u F (.slice R S.nr d) p mb (lkT E k) mL base2 (rmS S) k ⟨(wn : Int), op, a, v, sh⟩)))
            have HIL := Lib.hid (fun x (hx : x ∈ intoL E (rmS S) k) => intoL_lt HOKk.out hx)
            have HLL := Lib.hid (intoL_length (rm := rmS S) HOKk.out)
            have HFA := Lib.hid (fold_all (r := r) (rm := rmS S) HOKk.out HQE.out)
            obtain ⟨xsI, hxI⟩ : ∃ l, l = intoL E (rmS S) k := ⟨_, rfl⟩
            obtain ⟨nI, hnI⟩ : ∃ n, n = xsI.length := ⟨_, rfl⟩
            rw [← hxI] at HIN HIL HLL HFA
            have HXI := Lib.hid hxI
            have HNI := Lib.hid hnI
            have hnI6 : nI ≤ 40000 := by have := HLL.out; omega
            clear hxI hnI o8 o9 o10 o11
            go_wp2_with (first
              | (refine own_load 53 0 T.own rfl rfl rfl rfl rfl Try.underlying37 rfl (by kernel_rfl) ?_; simp only [Act.put, List.setIfInBounds_toArray, List.set_cons_zero, List.set_cons_succ])
              | (go_at_call 70; obtain ⟨fL, hl⟩ := T.la; refine (HNX.out _ T.own.keep F fL hl T.bs.2).mono ?_; rintro x W5 ⟨rr, F2, f2, rfl, hQ, LA, hnew, _, K⟩; rw [HIN.out] at hQ; rw [HLQ.out] at LA; obtain ⟨Av, cv, hvv, _⟩ := hQ.listL.1; rw [← HNI.out] at hvv; subst hvv; have hnw : nb wn < W2.heap.size := (by obtain ⟨f, ht⟩ := T.tk; exact (ht.rows wn hwr).lt); have T2 := T.link (HI.out k) K LA hnew; clear T; have T := T2; clear T2 LA K hl fL hnew))
            generalize hbh : W2.heap.size = bh at hQ hnw
            have HBH := Lib.hid hnw
            clear hbh hnw q8 q9 q10 q11 c15 cN
            have T := T.same (nc' := updN (nowN E (rmS S) k) wn (foldC E (rmS S) r k 0)) (kc' := tkC E (rmS S) r k) (fun i hi j hj => by by_cases e : i = wn; (· (subst e; simp only [updN, if_true]; rw [fold_zero, ← HEK.out]; rfl)); (· (simp only [updN, if_neg e]))) (fun i hi => rfl)
            go_loopg [56] nI (fun g s56 wr => ∃ q', q' ≤ nI ∧ g = nI - q' ∧ s56 = .int .i64 (q' : Int) ∧ TS w0 wr [(b15, 37, evC ⟨(wn : Int), op, a, v, sh⟩), (b4, 27, sysV S A c R d)] (Inv k) w.heap.size r gN nb mt X D F2 (updN (nowN E (rmS S) k) wn (foldC E (rmS S) r k q')) (tkC E (rmS S) r k) q (.slice R S.nr d) p mb (lkT E (k + 1)) (mL + 2) base2 ∧ HRow bh wr (.slice Av nI cv) xsI)
            case atStart => exact ⟨0, by omega, by omega, rfl, T, hQ⟩
            case round =>
              clear T hQ
              obtain ⟨q', hq', hgq, rfl, T, hQ⟩ := hrel
              have HG2 := Lib.hid hgq
              clear hgq
              by_cases hqt : q' < nI
              · have g4 : (q' : Int) < nI := by omega
                have g5 : (0 : Int) ≤ q' := by omega
                have HQL := Lib.hid (show q' < xsI.length by rw [← HNI.out]; exact hqt)
                obtain ⟨A', c', e', hx⟩ := hQ.listL.1
                obtain ⟨ad', e1, _, hc⟩ := hx (by have := HQL.out; omega)
                have e2 : Av = some ad' := by rw [← e1]; injection e'
                subst e2
                clear e1 e'
                have cq := hc q' HQL.out
                have hxm : xsI.getD q' 0 ∈ xsI := by rw [List.getD_eq_getElem?_getD, List.getElem?_eq_getElem HQL.out]; exact List.getElem_mem _
                have hx0 := HIL.out _ hxm
                have HWX := Lib.hid (wf_small (n := xsI.getD q' 0) (by omega) (by omega))
                have HFS := Lib.hid (fold_succ (E := E) (rm := rmS S) (r := r) (j := k) (q := q') (by rw [← HXI.out]; exact HQL.out))
                rw [← HXI.out] at HFS
                clear hx hc hxm
                generalize xsI.getD q' 0 = x at cq HWX HFS hx0
                obtain ⟨f, ht⟩ := T.tk
                obtain ⟨A1, q1, e1, _⟩ := (ht.kept 0 (by decide) (x)).shape
                have hR := ht.kept 0 (by decide) (x)
                obtain ⟨xs, hxs⟩ : ∃ xs, xs = tkC E (rmS S) r k 0 (x) := ⟨_, rfl⟩
                obtain ⟨n1, hn1⟩ : ∃ n, n = xs.length := ⟨_, rfl⟩
                have HXL := Lib.hid (show xs.length ≤ r by rw [hxs]; rcases tkC_len E (rmS S) r k 0 (x) with h | h <;> rw [h] <;> simp)
                rw [← hxs, ← hn1] at e1
                rw [← hxs] at hR
                have HNB := Lib.hid (show ∀ g, (Value.slice A1 n1 q1).ownBlock = some g → nb wn ≠ g from fun g hg => ht.nbk 0 (by decide) (x) g (by rw [e1]; exact hg) wn hwr)
                rw [e1] at hR
                have lk : (Instr.lookup 159 (.map (some (mt 0))) (.int .i64 (x)) false).run Try.prog wr = .ok (.slice A1 n1 q1) wr := by
                  have := look_eqV (ht.maps 0 (by decide)) 159 25 (.slice none 0 0) Try.underlying159 (zero25 _) (x) HWX.out
                  rwa [show (f 0 (x)).getD (.slice none 0 0) = .slice A1 n1 q1 from e1] at this
                have HXS := Lib.hid hxs
                clear e1 hxs hn1 ht f
                rw [← HXS.out] at HFS
                clear hx0
                go_wp2_with (first
                  | (refine own_litS 64 (.slice A1 n1 q1) T.own rfl rfl rfl rfl rfl ?_; clear lk; intro W3 gl O K hgl; replace T := T.add (HI.out k) K O hgl; replace hR := hR.keeps K (by simp); replace hQ := hQ.keeps K (by simp); clear cq; clear O K hgl; simp only [Act.put, List.setIfInBounds_toArray, List.set_cons_zero, List.set_cons_succ])
                  | (go_at_call 99; obtain ⟨f3, ht3⟩ := T.tk; obtain ⟨cur, hBv, hcv⟩ := ht3.rows wn hwr; refine (joined_any hBv hcv (T.own.get 0 rfl) (by have := hR.listL.1; exact this) (HXL.out) hr2 (fun ad n q hv hn => ?_)).mono ?_; (· (exact fun e => HNB.out ad.block (by rw [hv]; rfl) e.symm)); rintro e W4 ⟨rfl, ⟨cu2, hB2, hs2, hc2⟩, K⟩; replace hQ := hQ.keeps K (fun g hg hm => by have h1 := (hQ.own hg).1; have h2 := HBH.out; rw [List.mem_singleton.1 hm] at h1; omega); have T2 := (T.tick (HI.out k) (K.wide (L' := X) (fun b hb => by rw [List.mem_singleton.1 hb]; exact ht3.nX wn hwr)) (ht3.setNow hwr K ⟨cu2, hB2, hc2⟩) (fun b hb => .inl hb)).drop_ 1; clear T; have T := T2; clear T2 ht3 f3 hBv hcv hB2 hs2 hc2 K))
                have T := T.same (nc' := updN (nowN E (rmS S) k) wn (foldC E (rmS S) r k (q' + 1))) (kc' := tkC E (rmS S) r k) (fun i hi j hj => by by_cases e : i = wn; (· (subst e; simp only [updN, if_true]; exact HFS.out j hj)); (· (simp only [updN, if_neg e]))) (fun i hi => rfl)
                go_roundg (nI - (q' + 1))
                case measure => (have := HG2.out; omega)
                case rel => exact ⟨q' + 1, by omega, rfl, by go_num, T, hQ⟩
              · obtain rfl : nI = q' := by omega
                have T := T.same (nc' := updN (nowN E (rmS S) k) wn (mxC E (rmS S) (intoL E (rmS S) k))) (kc' := tkC E (rmS S) r k) (fun i hi j hj => by by_cases e : i = wn; (· (subst e; simp only [updN, if_true]; have := HFA.out j hj; rw [← HNI.out, HXI.out] at this; exact this)); (· (simp only [updN, if_neg e]))) (fun i hi => rfl)
                go_wp2
                go_meet
                exact ⟨_, T⟩
          case rest =>
            obtain ⟨F2, T⟩ := hcut
            obtain ⟨f, ht⟩ := T.tk
            obtain ⟨cur, hBw, hcw⟩ := ht.rows wn hwr
            obtain ⟨mx, hmx⟩ : ∃ mx, mx = mxC E (rmS S) (intoL E (rmS S) k) (wn : Int) := ⟨_, rfl⟩
            have hck := clk_eq (rm := rmS S) HOKk.out (wn : Int)
            have hcu := clk_up (rm := rmS S) HOKk.out
            rw [if_pos (by rw [← HEK.out]), show maxL ((intoL E (rmS S) k).map fun x => clk E (rmS S) x (wn : Int)) = mx from hmx.symm] at hck
            rw [← HEK.out] at hcu
            simp only at hcu
            rw [← hmx] at hcu
            have hmx1 : 0 ≤ mx ∧ mx ≤ 40000 := by
              have h1 := clk_le (E := E) (rm := rmS S) (wn : Int) k
              have h2 : 0 ≤ mx := by rw [hmx]; exact maxL_nonneg _
              omega
            have cw : wc.cell? ⟨nb wn, wn, none⟩ = some (.int .i64 mx) := by
              rw [hBw.cell, hcw.2 wn hwr]
              simp only [updN, if_true]
              rw [← hmx]
            have HCS := Lib.hid (hcw.set wn (mx + 1) hwr)
            have HCU := Lib.hid hcu
            have hsz : wn < cur.size := by have := hcw.1; omega
            have r1 : IntKind.i64.wrap (mx + 1) = mx + 1 := IntWalk.i64_in _ (by omega)
            have HNX := ht.nX wn hwr
            have HNC := Lib.hid (show updN (nowN E (rmS S) k) wn (clk E (rmS S) k) wn = clk E (rmS S) k by simp [updN])
            have HKL := Lib.hid (fun i a (hi : i < 3) => (show (tkC E (rmS S) r k i a).length ≤ r from by rcases tkC_len E (rmS S) r k i a with h | h <;> rw [h] <;> simp))
            have HWA := Lib.hid (by have := HWF.out k hlt; rwa [← HEK.out] at this : (Lit.int .i64 a).wf = true)
            have HOKA := Lib.hid (show OkAll S E (k + 1) from fun i hi => HOK.out i (by omega))
            have H14 := Lib.hid (show (⟨(wn : Int), op, a, v, sh⟩ : Ev).op = 14 → 0 < (⟨(wn : Int), op, a, v, sh⟩ : Ev).v → ∃ vN : Nat, (⟨(wn : Int), op, a, v, sh⟩ : Ev).v = (vN : Int) ∧ vN < r ∧ vN ≠ wn from fun h14 hv => by
              have h1 := ok_start HOKk.out (by rw [← HEK.out]; exact h14)
              have h2 := (ok_head HOKk.out).2.1
              have h3 := stN_r_mono E (show k + 1 ≤ m by omega)
              have h4 : (stN E (k + 1)).r = (stN E k).r + 1 := by
                show (nextE (stN E k) (E k)).r = _
                unfold nextE
                rw [← HEK.out, if_pos h14, if_neg (by omega)]
              have h5 := HR.out
              rw [← HEK.out] at h1 h2
              simp only at h1 h2 hv ⊢
              exact ⟨v.toNat, by omega, by omega, by omega⟩)
            have HCk := Lib.hid (fun u D g => HC.out k hlt u D g)
            clear hmx hck hcu hmx1 hcw
            have c15 : ∀ i : Nat, wc.cell? ⟨b15, i, none⟩ = #[Value.int .i64 (wn : Int), .int .i64 op, .int .i64 a, .int .i64 v, .bool sh][i]? := (T.own.get 0 rfl).cell
            cases hcc : cont k with
            | true =>
              rw [hcc] at HCk
              have HCC := Lib.hid hcc
              clear hcc
              go_wp2_with (first
                | (refine wpList_store_blk (nb wn) wn 3 cur (.int .i64 (mx + 1)) rfl rfl rfl rfl rfl hBw hsz rfl rfl (by kernel_rfl) ?_; intro u K B; have T2 := (T.tick (HI.out k) (K.wide (L' := X) (fun b hb => by rw [List.mem_singleton.1 hb]; exact HNX)) (ht.setNow hwr K ⟨_, B, HCS.out⟩) (fun b hb => .inl hb)).same (nc' := updN (nowN E (rmS S) k) wn (clk E (rmS S) k)) (kc' := tkC E (rmS S) r k) (fun i hi j hj => by by_cases e : i = wn; (· (subst e; simp only [updN, if_true]; exact congrFun HCU.out _)); (· (simp only [updN, if_neg e]))) (fun i hi => rfl); clear T ht hBw cw c15 K B r1; have T := T2; clear T2)
                | (refine own_load 107 0 T.own rfl rfl rfl rfl rfl Try.underlying37 rfl (by kernel_rfl) ?_; simp only [Act.put, List.setIfInBounds_toArray, List.set_cons_zero, List.set_cons_succ])
                | (go_at_call 100; obtain ⟨f2, ht2⟩ := T.tk; refine (note_any ⟨(wn : Int), op, a, v, sh⟩ ht2 hwr HNC.out hr2 (by omega) HKL.out HWA.out (by omega) H14.out).mono ?_; rintro e W6 ⟨rfl, ⟨f6, X6, hT6, hX6⟩, K⟩; have T2 := (T.tick (HI.out k) K hT6 hX6).same (nc' := nowN E (rmS S) (k + 1)) (kc' := tkC E (rmS S) r (k + 1)) (by rw [HEK.out]; exact note_now HOKA.out HWN.out (fun i hi hi2 c hc => by simp only [updN, if_neg hi]) (fun c hc => by simp only [updN, if_true])) (by rw [HEK.out]; exact note_kc); clear T ht2 hT6 hX6 K; have T := T2; clear T2)
                | (have hself : ClkAt _ (nb wn) r (clk E (rmS S) k) := (by obtain ⟨f2, ht2⟩ := T.tk; have := ht2.rows wn hwr; unfold nowN at this; rw [← HWN.out, now_self] at this; exact this); have hnd : nb wn ∉ D := (fun hm => T.dX _ hm (by obtain ⟨f2, ht2⟩ := T.tk; exact ht2.nX wn hwr)); refine wpList_call_fn (.int .i64 (k : Int)) (.slice (some ⟨nb wn, 0, none⟩) r r) rfl rfl rfl rfl rfl HFN.out ?_; refine (HCk.out _ D (nb wn) T.iv hnd hself).mono ?_; rintro e W7 ⟨rfl, ⟨D', hv', hD', hlt'⟩, K⟩; refine ⟨_, rfl, ?_⟩; simp only [Act.put, List.setIfInBounds_toArray, List.set_cons_zero, List.set_cons_succ]; have T2 := T.client K hv' hD' hlt'; clear T hself hnd hv' hD' hlt' K; have T := T2; clear T2))
              go_roundg (m - (k + 1))
              case measure => (have := HG.out; omega)
              case rel => exact ⟨k + 1, _, _, _, _, _, by omega, rfl, by go_num, T.drop_ 1, by omega, by omega, fun i hi => by
                by_cases e : i = k
                · rw [e]; exact HCC.out
                · exact HCT.out i (by omega)⟩
            | false =>
              rw [hcc] at HCk
              have HCC := Lib.hid hcc
              clear hcc
              go_wp2_with (first
                | (refine wpList_store_blk (nb wn) wn 3 cur (.int .i64 (mx + 1)) rfl rfl rfl rfl rfl hBw hsz rfl rfl (by kernel_rfl) ?_; intro u K B; have T2 := (T.tick (HI.out k) (K.wide (L' := X) (fun b hb => by rw [List.mem_singleton.1 hb]; exact HNX)) (ht.setNow hwr K ⟨_, B, HCS.out⟩) (fun b hb => .inl hb)).same (nc' := updN (nowN E (rmS S) k) wn (clk E (rmS S) k)) (kc' := tkC E (rmS S) r k) (fun i hi j hj => by by_cases e : i = wn; (· (subst e; simp only [updN, if_true]; exact congrFun HCU.out _)); (· (simp only [updN, if_neg e]))) (fun i hi => rfl); clear T ht hBw cw c15 K B r1; have T := T2; clear T2)
                | (refine own_load 107 0 T.own rfl rfl rfl rfl rfl Try.underlying37 rfl (by kernel_rfl) ?_; simp only [Act.put, List.setIfInBounds_toArray, List.set_cons_zero, List.set_cons_succ])
                | (go_at_call 100; obtain ⟨f2, ht2⟩ := T.tk; refine (note_any ⟨(wn : Int), op, a, v, sh⟩ ht2 hwr HNC.out hr2 (by omega) HKL.out HWA.out (by omega) H14.out).mono ?_; rintro e W6 ⟨rfl, ⟨f6, X6, hT6, hX6⟩, K⟩; have T2 := (T.tick (HI.out k) K hT6 hX6).same (nc' := nowN E (rmS S) (k + 1)) (kc' := tkC E (rmS S) r (k + 1)) (by rw [HEK.out]; exact note_now HOKA.out HWN.out (fun i hi hi2 c hc => by simp only [updN, if_neg hi]) (fun c hc => by simp only [updN, if_true])) (by rw [HEK.out]; exact note_kc); clear T ht2 hT6 hX6 K; have T := T2; clear T2)
                | (have hself : ClkAt _ (nb wn) r (clk E (rmS S) k) := (by obtain ⟨f2, ht2⟩ := T.tk; have := ht2.rows wn hwr; unfold nowN at this; rw [← HWN.out, now_self] at this; exact this); have hnd : nb wn ∉ D := (fun hm => T.dX _ hm (by obtain ⟨f2, ht2⟩ := T.tk; exact ht2.nX wn hwr)); refine wpList_call_fn (.int .i64 (k : Int)) (.slice (some ⟨nb wn, 0, none⟩) r r) rfl rfl rfl rfl rfl HFN.out ?_; refine (HCk.out _ D (nb wn) T.iv hnd hself).mono ?_; rintro e W7 ⟨rfl, ⟨D', hv', hD', hlt'⟩, K⟩; refine ⟨_, rfl, ?_⟩; simp only [Act.put, List.setIfInBounds_toArray, List.set_cons_zero, List.set_cons_succ]; have T2 := T.client K hv' hD' hlt'; clear T hself hnd hv' hD' hlt' K; have T := T2; clear T2))
              go_returns
              exact ⟨rfl, T.own.keep, k + 1, _, T.iv, .inr ⟨k, rfl, hlt, HCC.out, HCT.out⟩⟩
        · obtain rfl : m = k := by omega
          go_wp2
          go_returns
          exact ⟨rfl, T.own.keep, m, D, T.iv, .inl ⟨rfl, HCT.out⟩⟩
end
end Go.Proofs.Ytakmcpadkanggaa
namespace Go.Proofs.Ytakmcpadkanggaa
open Go.RowKit Go.Maps Go.Deep
theorem beq_nn {a b : Nat} (h : a ≠ b) : ((a : Int) == (b : Int)) = false := by rw [beq_eq_false_iff_ne]; omega
theorem fn101 : FnOk 101 := fun args w => by go_simp
/-- The numbers that before's closure looks at. -/
structure BfAt (w0 u : World) (B : Option Addr) (n cb i j : Nat) (b8 b6 b11 b9 b12 : Nat) (own : Int) (yes : Bool) : Prop where
  keep : Keeps w0 u []
  h8 : Blk u b8 3 #[.int .i64 (i : Int)]
  h6 : Blk u b6 31 #[.slice B n cb]
  h11 : Blk u b11 3 #[.int .i64 own]
  h9 : Blk u b9 3 #[.int .i64 (j : Int)]
  h12 : Blk u b12 4 #[.bool yes]
  nd : b8 ≠ b11 ∧ b9 ≠ b11
  lt : w0.heap.size ≤ b11 ∧ w0.heap.size ≤ b12
section
variable {w0 u : World} {E : Nat → Ev} {B : Option Addr} {n cb i j r k g wi : Nat} {b8 b6 b11 b9 b12 : Nat} {own : Int} {yes : Bool} {c : Int → Int}
def BPost (w0 : World) (B : Option Addr) (n cb i j b8 b6 b11 b9 b12 : Nat) (own : Int) (yes : Bool) (u : World) (e : Ending) (u' : World) : Prop :=
  e = .returned (.bool true) ∧ BfAt w0 u' B n cb i j b8 b6 b11 b9 b12 own yes ∧ Keeps u u' [b11, b12]
set_option maxRecDepth 100000 in
set_option maxHeartbeats 1000000 in
theorem bclo_o (hA : BfAt w0 u B n cb i j b8 b6 b11 b9 b12 own yes) (hE : EvsAt w0 B n E) (hc : ClkAt u g r c) (hi : i < n) (hw : (E i).who = (wi : Int)) (hwr : wi < r) (hg : g ≠ b11 ∧ g ≠ b12) (hj : j ≤ 40000) (hki : k ≠ i) (hkj : k ≠ j) :
    Calls Try.prog 101 #[.int .i64 (k : Int), .slice (some ⟨g, 0, none⟩) r r, .pointer (some ⟨b8, 0, none⟩), .pointer (some ⟨b6, 0, none⟩), .pointer (some ⟨b11, 0, none⟩), .pointer (some ⟨b9, 0, none⟩), .pointer (some ⟨b12, 0, none⟩)] u (BPost w0 B n cb i j b8 b6 b11 b9 b12 own yes u) := by
  obtain ⟨ad, rfl, hce⟩ := EvsAt.row (u := w0) hE hi
  have HCE := Lib.hid hce
  obtain ⟨cur, hB, hcu⟩ := hc
  have hcc := hcu.2 wi hwr
  have g1 : (i : Int) < n := by omega
  have g0 : (0 : Int) ≤ i := by omega
  have g2 : (wi : Int) < r := by omega
  have g3 : (0 : Int) ≤ wi := by omega
  have HA := Lib.hid hA
  have HB := Lib.hid hB
  have HW := Lib.hid hw
  have c8 := hA.h8.cell 0
  have c6 := hA.h6.cell 0
  have c9 := hA.h9.cell 0
  have cE : u.cell? (ad.add (i * 5)) = some (.int .i64 (wi : Int)) := by
    have := (show u.cell? (ad.add (i * 5)) = some (.int .i64 (E i).who) from hce [] u hA.keep (by simp) 0 (by show 0 < 5; omega))
    rw [hw] at this
    exact this
  have cg : u.cell? ⟨g, wi, none⟩ = some (.int .i64 (c (wi : Int))) := (hB.cell wi).trans hcc
  have q1 : ((k : Int) == (i : Int)) = false := beq_nn (by omega)
  have q2 : ((k : Int) == (j : Int)) = false := beq_nn (by omega)
  have q3 : (k == i) = false := by simpa using hki
  have q4 : (k == j) = false := by simpa using hkj
  clear hA hB hcu hcc hce hw hki hkj hE
  go_enter Try.func101, Try.ntmps101
  go_wp2
  go_ret
  exact ⟨rfl, HA.out, Keeps.refl _ _⟩
set_option maxRecDepth 100000 in
set_option maxHeartbeats 1000000 in
theorem bclo_i (hA : BfAt w0 u B n cb i j b8 b6 b11 b9 b12 own yes) (hE : EvsAt w0 B n E) (hc : ClkAt u g r c) (hi : i < n) (hw : (E i).who = (wi : Int)) (hwr : wi < r) (hg : g ≠ b11 ∧ g ≠ b12) (hj : j ≤ 40000) (hij : i ≠ j) :
    Calls Try.prog 101 #[.int .i64 (i : Int), .slice (some ⟨g, 0, none⟩) r r, .pointer (some ⟨b8, 0, none⟩), .pointer (some ⟨b6, 0, none⟩), .pointer (some ⟨b11, 0, none⟩), .pointer (some ⟨b9, 0, none⟩), .pointer (some ⟨b12, 0, none⟩)] u (BPost w0 B n cb i j b8 b6 b11 b9 b12 (c (wi : Int)) yes u) := by
  obtain ⟨ad, rfl, hce⟩ := EvsAt.row (u := w0) hE hi
  have HCE := Lib.hid hce
  obtain ⟨cur, hB, hcu⟩ := hc
  have hcc := hcu.2 wi hwr
  have g1 : (i : Int) < n := by omega
  have g0 : (0 : Int) ≤ i := by omega
  have g2 : (wi : Int) < r := by omega
  have g3 : (0 : Int) ≤ wi := by omega
  have HA := Lib.hid hA
  have HB := Lib.hid hB
  have HW := Lib.hid hw
  have c8 := hA.h8.cell 0
  have c6 := hA.h6.cell 0
  have c9 := hA.h9.cell 0
  have cE : u.cell? (ad.add (i * 5)) = some (.int .i64 (wi : Int)) := by
    have := (show u.cell? (ad.add (i * 5)) = some (.int .i64 (E i).who) from hce [] u hA.keep (by simp) 0 (by show 0 < 5; omega))
    rw [hw] at this
    exact this
  have cg : u.cell? ⟨g, wi, none⟩ = some (.int .i64 (c (wi : Int))) := (hB.cell wi).trans hcc
  have q2 : ((i : Int) == (j : Int)) = false := beq_nn (by omega)
  have q4 : (i == j) = false := by simpa using hij
  generalize c (wi : Int) = x at cg ⊢
  clear hA hB hcu hcc hce hw hij hE
  go_enter Try.func101, Try.ntmps101
  go_wp2_with (refine wpList_store_blk b11 0 3 #[.int .i64 own] (.int .i64 x) rfl rfl rfl rfl rfl HA.out.h11 (by simp) rfl rfl (by kernel_rfl) ?_; intro u2 K Bn; have c9' : u2.cell? ⟨b9, 0, none⟩ = some (.int .i64 (j : Int)) := (HA.out.h9.keeps K (by simpa using HA.out.nd.2)).cell 0; have HK := Lib.hid K; have HBN := Lib.hid (show Blk u2 b11 3 #[.int .i64 x] from Bn); clear K Bn)
  go_ret
  exact ⟨rfl, ⟨HA.out.keep.trans HK.out (fun b hb hlt => by rw [List.mem_singleton.1 hb] at hlt; have := HA.out.lt.1; omega), HA.out.h8.keeps HK.out (by simpa using HA.out.nd.1), HA.out.h6.keeps HK.out (by simpa using blk_ne HA.out.h6 HA.out.h11 (by decide)), HBN.out, HA.out.h9.keeps HK.out (by simpa using HA.out.nd.2), HA.out.h12.keeps HK.out (by simpa using blk_ne HA.out.h12 HA.out.h11 (by decide)), HA.out.nd, HA.out.lt⟩, HK.out.wide (by simp)⟩
set_option maxRecDepth 100000 in
set_option maxHeartbeats 1000000 in
theorem bclo_j (hA : BfAt w0 u B n cb i j b8 b6 b11 b9 b12 own yes) (hE : EvsAt w0 B n E) (hc : ClkAt u g r c) (hi : i < n) (hw : (E i).who = (wi : Int)) (hwr : wi < r) (hg : g ≠ b11 ∧ g ≠ b12) (hj : j ≤ 40000) (hij : i ≠ j) :
    Calls Try.prog 101 #[.int .i64 (j : Int), .slice (some ⟨g, 0, none⟩) r r, .pointer (some ⟨b8, 0, none⟩), .pointer (some ⟨b6, 0, none⟩), .pointer (some ⟨b11, 0, none⟩), .pointer (some ⟨b9, 0, none⟩), .pointer (some ⟨b12, 0, none⟩)] u (BPost w0 B n cb i j b8 b6 b11 b9 b12 own (decide (own ≤ c (wi : Int))) u) := by
  obtain ⟨ad, rfl, hce⟩ := EvsAt.row (u := w0) hE hi
  have HCE := Lib.hid hce
  obtain ⟨cur, hB, hcu⟩ := hc
  have hcc := hcu.2 wi hwr
  have g1 : (i : Int) < n := by omega
  have g0 : (0 : Int) ≤ i := by omega
  have g2 : (wi : Int) < r := by omega
  have g3 : (0 : Int) ≤ wi := by omega
  have HA := Lib.hid hA
  have HB := Lib.hid hB
  have HW := Lib.hid hw
  have c8 := hA.h8.cell 0
  have c6 := hA.h6.cell 0
  have c9 := hA.h9.cell 0
  have cE : u.cell? (ad.add (i * 5)) = some (.int .i64 (wi : Int)) := by
    have := (show u.cell? (ad.add (i * 5)) = some (.int .i64 (E i).who) from hce [] u hA.keep (by simp) 0 (by show 0 < 5; omega))
    rw [hw] at this
    exact this
  have cg : u.cell? ⟨g, wi, none⟩ = some (.int .i64 (c (wi : Int))) := (hB.cell wi).trans hcc
  have q1 : ((j : Int) == (i : Int)) = false := beq_nn (by omega)
  have q3 : (j == i) = false := by simpa using Ne.symm hij
  generalize hx : c (wi : Int) = x at cg ⊢
  have HCG := Lib.hid (fun q : Later u => (((HB.out.keeps q.2 (by simp)).cell wi).trans (hcc.trans (by rw [hx])) : q.1.cell? ⟨g, wi, none⟩ = some (.int .i64 x)))
  have HCE2 := Lib.hid (fun q : Later u => (by have := (show q.1.cell? (ad.add (i * 5)) = some (.int .i64 (E i).who) from HCE.out [] q.1 (HA.out.keep.trans q.2 (by simp)) (by simp) 0 (by show 0 < 5; omega)); rw [HW.out] at this; exact this : q.1.cell? (ad.add (i * 5)) = some (.int .i64 (wi : Int))))
  clear hA hB hcu hcc hce hw hij hE hx
  go_enter Try.func101, Try.ntmps101
  go_wp2
  clear c8 c6 c9 cE cg
  have c8 : ∀ q : Later u, q.1.cell? ⟨b8, 0, none⟩ = some (.int .i64 (i : Int)) := fun q => (HA.out.h8.keeps q.2 (by simp)).cell 0
  have c6 : ∀ q : Later u, q.1.cell? ⟨b6, 0, none⟩ = some (.slice (some ad) n cb) := fun q => (HA.out.h6.keeps q.2 (by simp)).cell 0
  have c11 : ∀ q : Later u, q.1.cell? ⟨b11, 0, none⟩ = some (.int .i64 own) := fun q => (HA.out.h11.keeps q.2 (by simp)).cell 0
  have cE := HCE2.out
  have cg := HCG.out
  refine wp_quiet_tail_later 10 (by kernel_rfl) (by kernel_rfl) ?_
  simp only [List.take, List.drop]
  repeat (first
    | go_big_quiet_skip
    | go_big_quiet_step (fail))
  refine wpQuiet_nil ?_
  intro _ hw
  obtain ⟨p', rfl⟩ := hw
  have HKQ := Lib.hid p'.2
  have H12 := Lib.hid (HA.out.h12.keeps p'.2 (by simp))
  clear c8 c6 c11 cE cg
  generalize p'.1 = W at HKQ H12 ⊢
  refine wpList_store_blk b12 0 4 #[.bool yes] (.bool (decide (own ≤ x))) rfl rfl rfl rfl rfl H12.out (by simp) rfl rfl (by kernel_rfl) ?_
  intro u2 K Bn
  have HK := Lib.hid (HKQ.out.wide (L' := [b12]) (by simp) |>.trans K (fun b hb _ => hb))
  have HBN := Lib.hid (show Blk u2 b12 4 #[.bool (decide (own ≤ x))] from Bn)
  clear K Bn
  go_wp2
  go_ret
  exact ⟨rfl, ⟨HA.out.keep.trans HK.out (fun b hb hlt => by rw [List.mem_singleton.1 hb] at hlt; have := HA.out.lt.2; omega), HA.out.h8.keeps HK.out (by simpa using blk_ne HA.out.h8 HA.out.h12 (by decide)), HA.out.h6.keeps HK.out (by simpa using blk_ne HA.out.h6 HA.out.h12 (by decide)), HA.out.h11.keeps HK.out (by simpa using blk_ne HA.out.h11 HA.out.h12 (by decide)), HA.out.h9.keeps HK.out (by simpa using blk_ne HA.out.h9 HA.out.h12 (by decide)), HBN.out, HA.out.nd, HA.out.lt⟩, HK.out.wide (by simp)⟩
end
end Go.Proofs.Ytakmcpadkanggaa
namespace Go.Proofs.Ytakmcpadkanggaa
open Go.RowKit Go.Maps Go.Deep
/-- Is event i before event j, by the clocks? -/
def befB (E : Nat → Ev) (rm : Int → Int) (i j : Nat) : Bool := decide (i < j) && decide (clk E rm i (E i).who ≤ clk E rm j (E i).who)
theorem blk_add {W : World} {g t : Nat} {cs : Array Value} (h : Blk W g t cs) (j : Nat) : W.cell? ((⟨g, 0, none⟩ : Addr).add j) = cs[j]? := by
  have e : (⟨g, 0, none⟩ : Addr).add j = ⟨g, j, none⟩ := by
    by_cases h : j = 0
    · subst h; rfl
    · simp [Addr.add, h]
  rw [e, h.cell]
theorem evs_le {w : World} {B : Option Addr} {n m : Nat} {E : Nat → Ev} (h : EvsAt w B n E) (hm : m ≤ n) : EvsAt w B m E := fun h0 => by
  obtain ⟨ad, e, hb, hc⟩ := h (by omega)
  exact ⟨ad, e, hb, fun i j hi hj => hc i j (by omega) hj⟩
theorem own_at {w W : World} {L : List Ent} {g : Nat} {t : TypeId} {cs : Array Value} (h : Own w W [] L) (k : Nat) (hk : L[k]? = some (g, t, cs)) : w.heap.size ≤ g ∧ g < W.heap.size :=
  ⟨Nat.le_of_not_lt fun hl => absurd (h.new _ (List.mem_of_getElem? hk) hl) (by simp), h.lt k hk⟩
def ownK9 (E : Nat → Ev) (rm : Int → Int) (i k : Nat) : Int := if i < k then clk E rm i (E i).who else 0
def yesK9 (E : Nat → Ev) (rm : Int → Int) (i j k : Nat) : Bool := if j < k then decide (clk E rm i (E i).who ≤ clk E rm j (E i).who) else false
section
variable {w0 w : World} {S : Sys} {A : Option Addr} {c : Nat} {R : Option Addr} {d n r : Nat} {E : Nat → Ev} {B : Option Addr} {cb i j : Nat}
def BfInv (w0 : World) (E : Nat → Ev) (rm : Int → Int) (B : Option Addr) (n cb i j b8 b6 b11 b9 b12 : Nat) (k : Nat) (u : World) (D : List Nat) : Prop :=
  D = [b8, b6, b11, b9, b12] ∧ BfAt w0 u B n cb i j b8 b6 b11 b9 b12 (ownK9 E rm i k) (yesK9 E rm i j k)
theorem bfInv_ok {rm : Int → Int} {b8 b6 b11 b9 b12 k : Nat} : IvOk w0 (BfInv w0 E rm B n cb i j b8 b6 b11 b9 b12 k) := by
  rintro W u D S ⟨rfl, h⟩ K hS
  have ns : ∀ b, b ∈ [b8, b6, b11, b9, b12] → b ∉ S := fun b hb hm => (hS b hm).1 hb
  exact ⟨rfl, h.keep.trans K (fun b hb hlt => by have := (hS b hb).2; omega), h.h8.keeps K (ns _ (by simp)), h.h6.keeps K (ns _ (by simp)), h.h11.keeps K (ns _ (by simp)), h.h9.keeps K (ns _ (by simp)), h.h12.keeps K (ns _ (by simp)), h.nd, h.lt⟩
theorem bf_see {rm : Int → Int} {b8 b6 b11 b9 b12 k wi : Nat} (hE : EvsAt w0 B n E) (hi : i < n) (hij : i < j) (hj : j ≤ 40000) (hw : (E i).who = (wi : Int)) (hwr : wi < r) (hk : k < j + 1) (u : World) (D : List Nat) (g : Nat) (hI : BfInv w0 E rm B n cb i j b8 b6 b11 b9 b12 k u D) (hg : g ∉ D) (hc : ClkAt u g r (clk E rm k)) :
    Calls Try.prog 101 (#[.int .i64 (k : Int), .slice (some ⟨g, 0, none⟩) r r] ++ #[.pointer (some ⟨b8, 0, none⟩), .pointer (some ⟨b6, 0, none⟩), .pointer (some ⟨b11, 0, none⟩), .pointer (some ⟨b9, 0, none⟩), .pointer (some ⟨b12, 0, none⟩)]) u (SeePost (BfInv w0 E rm B n cb i j b8 b6 b11 b9 b12 (k + 1)) true u D) := by
  obtain ⟨rfl, hA⟩ := hI
  have hgn : g ≠ b11 ∧ g ≠ b12 := ⟨fun e => hg (by simp [e]), fun e => hg (by simp [e])⟩
  have fin : ∀ (own' : Int) (yes' : Bool), own' = ownK9 E rm i (k + 1) → yes' = yesK9 E rm i j (k + 1) → ∀ e u', BPost w0 B n cb i j b8 b6 b11 b9 b12 own' yes' u e u' → SeePost (BfInv w0 E rm B n cb i j b8 b6 b11 b9 b12 (k + 1)) true u [b8, b6, b11, b9, b12] e u' := by
    rintro own' yes' rfl rfl e u' ⟨rfl, h, K⟩
    refine ⟨rfl, ⟨_, ⟨rfl, h⟩, fun q hq => .inl hq, fun q hq => ?_⟩, K.wide (fun b hb => by simp only [List.mem_cons, List.not_mem_nil, or_false] at hb ⊢; rcases hb with rfl | rfl <;> simp)⟩
    simp only [List.mem_cons, List.not_mem_nil, or_false] at hq
    rcases hq with rfl | rfl | rfl | rfl | rfl
    · exact h.h8.lt
    · exact h.h6.lt
    · exact h.h11.lt
    · exact h.h9.lt
    · exact h.h12.lt
  by_cases ei : k = i
  · subst ei
    exact (bclo_i hA hE hc hi hw hwr hgn hj (by omega)).mono (fin _ _ (by unfold ownK9; rw [if_pos (by omega), ← hw]) (by unfold yesK9; rw [if_neg (by omega), if_neg (by omega)]))
  · by_cases ej : k = j
    · subst ej
      refine (bclo_j hA hE hc hi hw hwr hgn hj (by omega)).mono (fin _ _ ?_ ?_)
      · unfold ownK9; rw [if_pos (by omega), if_pos (by omega)]
      · unfold ownK9 yesK9; rw [if_pos (by omega), if_pos (by omega), ← hw]
    · refine (bclo_o hA hE hc hi hw hwr hgn hj ei ej).mono (fin _ _ ?_ ?_)
      · unfold ownK9
        by_cases h : i < k
        · rw [if_pos h, if_pos (by omega)]
        · rw [if_neg h, if_neg (by omega)]
      · unfold yesK9; rw [if_neg (by omega), if_neg (by omega)]
set_option maxRecDepth 100000 in
set_option maxHeartbeats 2000000 in
theorem before_any (hS : SysIn w S A c R d) (hE : EvsAt w B n E) (hrm : ∀ q, q < S.nr → 1 ≤ S.rm q ∧ S.rm q ≤ 1000000) (hok : OkAll S E n) (hn : n ≤ 40000) (hwf : ∀ i, i < n → (Lit.int .i64 (E i).a).wf = true) (hr : (stN E n).r ≤ r) (hr2 : r ≤ 1000000) (hi : i < n) (hj : j < n) (hcb : n ≤ cb) :
    Calls Try.prog 79 #[.agg (sysV S A c R d), .slice B n cb, .int .i64 (r : Int), .int .i64 (i : Int), .int .i64 (j : Int)] w fun e u => e = .returned (.bool (befB E (rmS S) i j)) ∧ Keeps w u [] := by
  have O := Own.start w []
  by_cases hij : i < j
  · obtain ⟨ad, rfl, _⟩ := hE (by omega)
    have HF := Lib.hid (show befB E (rmS S) i j = decide (clk E (rmS S) i (E i).who ≤ clk E (rmS S) j (E i).who) by unfold befB; rw [decide_eq_true hij]; rfl)
    obtain ⟨hw1, hw2, _⟩ := ok_head (hok i hi)
    obtain ⟨wi, hwi⟩ : ∃ wi : Nat, (E i).who = (wi : Int) := ⟨(E i).who.toNat, by omega⟩
    have hwr : wi < r := by
      have := stN_r_mono E (show i ≤ n by omega)
      omega
    have HT := Lib.hid (fun W (K : Keeps w W []) b8 b6 b11 b9 b12 (h0 : BfInv w E (rmS S) (some ad) n cb i j b8 b6 b11 b9 b12 0 W [b8, b6, b11, b9, b12]) (hlt : ∀ b ∈ [b8, b6, b11, b9, b12], w.heap.size ≤ b ∧ b < W.heap.size) => ticks_any (cb := cb) (m := j + 1) (r := r) 101 #[.pointer (some ⟨b8, 0, none⟩), .pointer (some ⟨b6, 0, none⟩), .pointer (some ⟨b11, 0, none⟩), .pointer (some ⟨b9, 0, none⟩), .pointer (some ⟨b12, 0, none⟩)] (BfInv w E (rmS S) (some ad) n cb i j b8 b6 b11 b9 b12) (fun _ => true) [b8, b6, b11, b9, b12] K hS (evs_le hE (by omega)) hrm (fun k hk => hok k (by omega)) (by omega) (fun k hk => hwf k (by omega)) (by have := stN_r_mono E (show j + 1 ≤ n by omega); omega) hr2 fn101 (fun k => bfInv_ok) h0 hlt (fun k hk u D g h1 h2 h3 => bf_see hE hi hij (by omega) hwi hwr hk u D g h1 h2 h3))
    have g1 : decide (j ≤ i) = false := decide_eq_false (by omega)
    have g2 : (n : Int) ≤ cb := by omega
    have g3 : ((j : Nat) : Int) + 1 ≤ cb := by omega
    have g4 : ¬ (j : Int) ≤ (i : Int) := by omega
    have HIJ := Lib.hid hij
    have hj6 : j ≤ 40000 := by omega
    clear hS hE hrm hok hwf hr hi hj hcb hij hw1 hw2 hwi hwr
    go_enter Try.func79, Try.ntmps79
    go_wp2_with (first
      | (refine own_box 5 (sysV S A c R d) O rfl rfl rfl rfl ?_; clear O; intro W b5 O; simp only [Act.put, List.setIfInBounds_toArray, List.set_cons_zero, List.set_cons_succ])
      | (refine own_box1 6 (.slice (some ad) n cb) O rfl rfl rfl rfl rfl ?_; clear O; intro W b6 O; simp only [Act.put, List.setIfInBounds_toArray, List.set_cons_zero, List.set_cons_succ])
      | (refine own_box1 8 (.int .i64 (i : Int)) O rfl rfl rfl rfl rfl ?_; clear O; intro W b8 O; simp only [Act.put, List.setIfInBounds_toArray, List.set_cons_zero, List.set_cons_succ])
      | (refine own_box1 9 (.int .i64 (j : Int)) O rfl rfl rfl rfl rfl ?_; clear O; intro W b9 O; simp only [Act.put, List.setIfInBounds_toArray, List.set_cons_zero, List.set_cons_succ]; have c8 := (O.get 1 rfl).cell 0; have c9 := (O.get 0 rfl).cell 0)
      | (refine own_alloc1 11 (.int .i64 0) O rfl rfl rfl (fun _ => by kernel_rfl) rfl ?_; clear O c8 c9; intro W b11 O; simp only [Act.put, List.setIfInBounds_toArray, List.set_cons_zero, List.set_cons_succ])
      | (refine own_alloc1 12 (.bool false) O rfl rfl rfl (fun _ => by kernel_rfl) rfl ?_; clear O; intro W b12 O; simp only [Act.put, List.setIfInBounds_toArray, List.set_cons_zero, List.set_cons_succ])
      | (refine own_store 1 0 (.int .i64 0) (.tmp 11) (.const (.int .i64 0)) O rfl rfl rfl rfl rfl rfl (by decide) rfl rfl (by kernel_rfl) rfl ?_; clear O; intro W O; simp only [List.set_cons_zero, List.set_cons_succ] at O)
      | (refine own_store 0 0 (.bool false) (.tmp 12) (.const (.bool false)) O rfl rfl rfl rfl rfl rfl (by decide) rfl rfl (by kernel_rfl) rfl ?_; clear O; intro W O; simp only [List.set_cons_zero, List.set_cons_succ] at O))
    have H12 := O.get 0 rfl
    have H11 := O.get 1 rfl
    have H9 := O.get 2 rfl
    have H8 := O.get 3 rfl
    have H6 := O.get 4 rfl
    have H5 := O.get 5 rfl
    have HI := Lib.hid (show BfInv w E (rmS S) (some ad) n cb i j b8 b6 b11 b9 b12 0 W [b8, b6, b11, b9, b12] from ⟨rfl, O.keep, H8, H6, by unfold ownK9; rw [if_neg (Nat.not_lt_zero i)]; exact H11, H9, by unfold yesK9; rw [if_neg (Nat.not_lt_zero j)]; exact H12, ⟨O.apart (i := 3) (j := 1) rfl rfl (by decide), O.apart (i := 2) (j := 1) rfl rfl (by decide)⟩, ⟨(own_at O 1 rfl).1, (own_at O 0 rfl).1⟩⟩)
    have HL := Lib.hid (show ∀ b ∈ [b8, b6, b11, b9, b12], w.heap.size ≤ b ∧ b < W.heap.size by
      intro b hb
      simp only [List.mem_cons, List.not_mem_nil, or_false] at hb
      rcases hb with h | h | h | h | h
      · rw [h]; exact own_at O 3 rfl
      · rw [h]; exact own_at O 4 rfl
      · rw [h]; exact own_at O 1 rfl
      · rw [h]; exact own_at O 2 rfl
      · rw [h]; exact own_at O 0 rfl)
    have HK := Lib.hid O.keep
    have c5 : ∀ u, (∃ p : Later W, u = p.1) → ∀ k, k < (sysV S A c R d).size → u.cell? ((⟨b5, 0, none⟩ : Addr).add k) = (sysV S A c R d)[k]? := fun u hu k _ => by
      obtain ⟨p, rfl⟩ := hu
      exact blk_add (H5.keeps p.2 (by simp)) k
    have c6 : ∀ q : Later W, q.1.cell? ⟨b6, 0, none⟩ = some (.slice (some ad) n cb) := fun q => (H6.keeps q.2 (by simp)).cell 0
    have c9 : ∀ q : Later W, q.1.cell? ⟨b9, 0, none⟩ = some (.int .i64 (j : Int)) := fun q => (H9.keeps q.2 (by simp)).cell 0
    clear H12 H11 H9 H8 H6 H5
    refine wp_quiet_tail_later 7 (by kernel_rfl) (by kernel_rfl) ?_
    simp only [List.take, List.drop]
    repeat (first
      | go_big_quiet_skip
      | (refine wpQuiet_load_at (cs := sysV S A c R d) 16 rfl rfl rfl rfl c5 Try.underlying27 rfl (by kernel_rfl) ?_; simp only [Act.put, List.setIfInBounds_toArray, List.set_cons_zero, List.set_cons_succ])
      | go_big_quiet_step (fail))
    refine wpQuiet_nil ?_
    intro _ hw
    obtain ⟨p', rfl⟩ := hw
    replace O := O.keeps p'.2
    replace HI := Lib.hid (bfInv_ok _ _ _ [] HI.out p'.2 (fun b hb => absurd hb (by simp)))
    replace HL := Lib.hid (fun b hb => And.intro (HL.out b hb).1 (Nat.lt_of_lt_of_le (HL.out b hb).2 p'.2.size))
    clear HK c5 c6 c9
    generalize p'.1 = W2 at O HI HL ⊢
    go_wp2_with (go_at_call 72; refine (HT.out _ O.keep b8 b6 b11 b9 b12 HI.out HL.out).mono ?_; rintro e W3 ⟨rfl, K3, k, D, hI, hk⟩; have hkj : k = j + 1 := (hk.elim (fun h => h.1) (fun h => absurd (Exists.choose_spec h).2.2.1 (by simp))); subst hkj; clear hk; obtain ⟨rfl, hB⟩ := hI; have HK := Lib.hid hB.keep; have c12 := hB.h12.cell 0; clear hB)
    go_ret
    refine ⟨?_, HK.out⟩
    rw [HF.out]
    unfold yesK9
    rw [if_pos (by omega)]
    rfl
  · have HF := Lib.hid (show befB E (rmS S) i j = false by unfold befB; rw [decide_eq_false hij]; rfl)
    have g1 : decide (j ≤ i) = true := decide_eq_true (by omega)
    have g4 : (j : Int) ≤ (i : Int) := by omega
    clear hS hE hrm hok hwf hij
    go_enter Try.func79, Try.ntmps79
    go_wp2_with (first
      | (refine own_box 5 (sysV S A c R d) O rfl rfl rfl rfl ?_; clear O; intro W b5 O; simp only [Act.put, List.setIfInBounds_toArray, List.set_cons_zero, List.set_cons_succ])
      | (refine own_box1 6 (.slice B n cb) O rfl rfl rfl rfl rfl ?_; clear O; intro W b6 O; simp only [Act.put, List.setIfInBounds_toArray, List.set_cons_zero, List.set_cons_succ])
      | (refine own_box1 8 (.int .i64 (i : Int)) O rfl rfl rfl rfl rfl ?_; clear O; intro W b8 O; simp only [Act.put, List.setIfInBounds_toArray, List.set_cons_zero, List.set_cons_succ])
      | (refine own_box1 9 (.int .i64 (j : Int)) O rfl rfl rfl rfl rfl ?_; clear O; intro W b9 O; simp only [Act.put, List.setIfInBounds_toArray, List.set_cons_zero, List.set_cons_succ]; have c8 := (O.get 1 rfl).cell 0; have c9 := (O.get 0 rfl).cell 0))
    go_ret
    exact ⟨by rw [HF.out]; rfl, O.keep⟩
end
end Go.Proofs.Ytakmcpadkanggaa
namespace Go.Proofs.Ytakmcpadkanggaa
open Go.RowKit
section
variable {S : Sys} {E : Nat → Ev} {rm : Int → Int} {n i j k : Nat}
theorem lastN_some {w : Int} : ∀ {j : Nat}, i < j → (E i).who = w → ∃ l : Nat, lastN E w j = some (l : Int) ∧ i ≤ l ∧ l < j ∧ (E l).who = w
  | j + 1, h, hw => by
    by_cases e : (E j).who = w
    · exact ⟨j, by simp [lastN, e], by omega, by omega, e⟩
    · have hij : i ≠ j := fun e' => e (e' ▸ hw)
      obtain ⟨l, h1, h2, h3, h4⟩ := lastN_some (j := j) (by omega) hw
      exact ⟨l, by simp [lastN, e, h1], h2, by omega, h4⟩
theorem own_last {l : Nat} {w : Int} (h : lastN E w j = some (l : Int)) : (l : Int) ∈ ownL (lkN E j) w := by
  rw [ownL_lk, h]
  simp
theorem own_behind (hok : OkAll S E n) : ∀ j, j < n → ∀ i, i < j → (E i).who = (E j).who → Bh E rm i j := by
  intro j
  induction j using Nat.strongRecOn with
  | ind j ih =>
    intro hj i hij hw
    obtain ⟨l, h1, h2, h3, h4⟩ := lastN_some hij hw
    have hm : (l : Int) ∈ intoL E rm j := (intoL_mem (hok _ hj) _).2 ⟨List.mem_append_left _ (own_last h1), by omega⟩
    by_cases e : i = l
    · subst e; exact .edge hm
    · exact .step (ih l h3 (by omega) i (by omega) (by rw [hw, h4])) hm
theorem edge_le (hok : OkAll S E n) (hj : j < n) (h : (i : Int) ∈ intoL E rm j) (w : Int) : clk E rm i w + (if (E j).who = w then 1 else 0) ≤ clk E rm j w := by
  rw [clk_eq (hok _ hj) w]
  have := maxL_le (List.mem_map.2 ⟨(i : Int), h, rfl⟩ : clk E rm i w ∈ (intoL E rm j).map fun x => clk E rm x w)
  omega
theorem bh_le (hok : OkAll S E n) (h : Bh E rm i j) (w : Int) (hj : j < n) : clk E rm i w + (if (E j).who = w then 1 else 0) ≤ clk E rm j w := by
  induction h with
  | edge h => exact edge_le hok hj h w
  | step _ h ih =>
    have h1 := intoL_lt (hok _ hj) h
    have h2 := ih (by omega)
    have h3 := edge_le hok hj h w
    split at h2 <;> omega
theorem clk_from (hok : OkAll S E n) (w : Int) : ∀ j, j < n → 0 < clk E rm j w → ∃ i, (E i).who = w ∧ clk E rm i w = clk E rm j w ∧ (i = j ∨ Bh E rm i j) := by
  intro j
  induction j using Nat.strongRecOn with
  | ind j ih =>
    intro hj h0
    by_cases e : (E j).who = w
    · exact ⟨j, e, rfl, .inl rfl⟩
    · have hc := clk_eq (rm := rm) (hok _ hj) w
      rw [if_neg e, Int.add_zero] at hc
      rcases maxL_mem ((intoL E rm j).map fun x => clk E rm x w) with h | h
      · omega
      · obtain ⟨x, hx, hx2⟩ := List.mem_map.1 h
        obtain ⟨h1, h2⟩ := intoL_lt (hok _ hj) hx
        obtain ⟨p, rfl⟩ : ∃ p : Nat, x = (p : Int) := ⟨x.toNat, by omega⟩
        have he : clk E rm p w = clk E rm j w := by rw [hc]; exact hx2
        obtain ⟨i, hi, hi2, hi3⟩ := ih p (by omega) (by omega) (by omega)
        refine ⟨i, hi, by rw [hi2, he], .inr ?_⟩
        rcases hi3 with rfl | hi3
        · exact .edge hx
        · exact .step hi3 hx
/-- The clocks' theorem. -/
theorem bh_clk (hok : OkAll S E n) (hi : i < n) (hj : j < n) : Bh E rm i j ↔ i < j ∧ clk E rm i (E i).who ≤ clk E rm j (E i).who := by
  constructor
  · intro h
    have := bh_le hok h (E i).who hj
    refine ⟨h.lt hok hj, ?_⟩
    split at this <;> omega
  · rintro ⟨hlt, hle⟩
    have h1 : 1 ≤ clk E rm i (E i).who := by
      rw [clk_eq (hok _ hi), if_pos rfl]
      have := maxL_nonneg ((intoL E rm i).map fun x => clk E rm x (E i).who)
      omega
    obtain ⟨q, hq, hq2, hq3⟩ := clk_from (rm := rm) hok (E i).who j hj (by omega)
    have hqj : q ≤ j := by
      rcases hq3 with rfl | h
      · omega
      · have := h.lt hok hj; omega
    rcases Nat.lt_trichotomy q i with h | rfl | h
    · have := bh_le hok (own_behind (rm := rm) hok i hi q h hq) (E i).who hi
      rw [if_pos rfl] at this
      omega
    · rcases hq3 with rfl | h
      · omega
      · exact h
    · have hb := own_behind (rm := rm) hok q (by omega) i h hq.symm
      rcases hq3 with rfl | h'
      · exact hb
      · exact hb.trans h'
theorem bef_beh (hok : OkAll S E n) (hi : i < n) (hj : j < n) : befB E rm i j = behT E rm i n (j : Int) := by
  rw [Bool.eq_iff_iff, behT_iff hok j hj, bh_clk hok hi hj]
  unfold befB
  simp
end
end Go.Proofs.Ytakmcpadkanggaa
namespace Go.Proofs.Ytakmcpadkanggaa
open Go.RowKit Go.Maps Go.Deep
def insB (n : Nat) (i : Int) : Bool := decide (0 ≤ i) && decide (i < n)
def askedR (S : Sys) (E : Nat → Ev) (n : Nat) (xs : List Int) : Int × Int := if (thr S E n).2.2 = 0 then (if xs.all (insB n) then ((thr S E n).1, 0) else (0, 1)) else (0, (thr S E n).2.2)
def askV (r : Int × Int) : Value := .tuple #[.int .i64 r.1, .int .i64 r.2]
section
variable {w : World} {S : Sys} {A : Option Addr} {c : Nat} {R : Option Addr} {d n : Nat} {E : Nat → Ev} {B : Option Addr} {cb : Nat}
set_option maxRecDepth 100000 in
theorem asked_any (hS : SysIn w S A c R d) (hE : EvsAt w B n E) (hwf : ∀ i, i < n → (Lit.int .i64 (E i).a).wf = true) (v : Value) (xs : List Int) (hx : IntL w v xs) (hl : xs.length ≤ 10) : Calls Try.prog 62 #[.agg (sysV S A c R d), .slice B n cb, v] w fun e w' => e = .returned (askV (askedR S E n xs)) ∧ Keeps w w' [] := by
  have O := Own.start w []
  obtain ⟨A', c', rfl, hx⟩ := hx
  have HT : ∀ u, Keeps w u [] → Hid (Calls Try.prog 60 #[.agg (sysV S A c R d), .slice B n cb] u fun e w' => e = .returned (.tuple #[.int .i64 (thr S E n).1, .int .i64 (thr S E n).2.1, .int .i64 (thr S E n).2.2]) ∧ Keeps u w' []) := fun u k => Lib.hid (through_any (hS.kept k) (hE.kept k) hwf)
  have HX := Lib.hid hx
  clear hx hS hE hwf
  generalize hm : xs.length = m at *
  by_cases h : (thr S E n).2.2 = 0
  · have HA := Lib.hid (show askedR S E n xs = if xs.all (insB n) then ((thr S E n).1, 0) else (0, 1) by simp [askedR, h])
    generalize askedR S E n xs = r at HA ⊢
    generalize thr S E n = x at *
    obtain ⟨x0, x1, x2⟩ := x
    simp only at *
    subst h
    have HMl := Lib.hid hm
    clear hm
    go_enter Try.func62, Try.ntmps62
    go_wp2_with (first
      | go_big_skip
      | (refine own_box 3 (sysV S A c R d) O rfl rfl rfl rfl ?_; clear O; intro W a3 O; simp only [Act.put, List.setIfInBounds_toArray, List.set_cons_zero, List.set_cons_succ])
      | (refine own_load 14 0 O rfl rfl rfl rfl rfl Try.underlying27 rfl (by kernel_rfl) ?_; simp only [Act.put, List.setIfInBounds_toArray, List.set_cons_zero, List.set_cons_succ])
      | (go_at_call 60; refine ((HT _ O.keep).out).mono ?_; rintro e W ⟨rfl, K⟩; replace O := O.keeps K; clear K))
    go_loopw [25] (fun i wr => ∃ k : Nat, k ≤ m ∧ i = .int .i64 k ∧ Keeps w wr [] ∧ ∀ j, j < k → insB n (xs.getD j 0) = true) (fun i _ => m - (intOf i).toNat)
    case atStart => exact ⟨0, by omega, rfl, O.keep, fun j hj => by omega⟩
    case round =>
      obtain ⟨k, hk, rfl, K, hmk⟩ := hrel
      have HK := Lib.hid hmk
      clear hmk O
      by_cases hlt : k < m
      · have g1 : ((k : Int)) < m := by omega
        have g0 : (0 : Int) ≤ k := by omega
        obtain ⟨ad, rfl, hb, hc⟩ := HX.out (by omega)
        have c1 : wr.cell? (ad.add k) = some (.int .i64 (xs.getD k 0)) := (K.cellAt (by rw [add_block]; exact hb) (by simp)).trans (hc k hlt)
        clear hc hb
        have HNo := Lib.hid (show insB n (xs.getD k 0) = false → r = (0, 1) from fun hb => by
          rw [HA.out, if_neg]
          intro hall
          have hmem : xs.getD k 0 ∈ xs := by
            have : k < xs.length := by have := HMl.out; omega
            simp [this]
          rw [List.all_eq_true.1 hall _ hmem] at hb
          cases hb)
        have HYes := Lib.hid (show insB n (xs.getD k 0) = true → ∀ j, j < k + 1 → insB n (xs.getD j 0) = true from fun hb j hj => if h : j = k then (by rw [h]; exact hb) else HK.out j (by omega))
        generalize xs.getD k 0 = y at c1 HNo HYes
        by_cases h0 : y < 0
        · have HF := Lib.hid (HNo.out (by simp [insB]; omega))
          go_wp2_with (first | go_big_skip)
          go_returns
          exact ⟨by rw [HF.out]; rfl, K⟩
        · by_cases h1 : (n : Int) ≤ y
          · have HF := Lib.hid (HNo.out (by simp [insB]; omega))
            go_wp2_with (first | go_big_skip)
            go_returns
            exact ⟨by rw [HF.out]; rfl, K⟩
          · have HG := Lib.hid (HYes.out (by simp [insB]; omega))
            go_wp2_with (first | go_big_skip)
            clear c1
            go_roundw
            case rel => exact ⟨k + 1, by omega, by go_num, K, HG.out⟩
            case measure => (simp [intOf] <;> omega)
      · obtain rfl : k = m := by omega
        have HF := Lib.hid (show r = (x0, 0) by
          rw [HA.out, if_pos]
          rw [List.all_eq_true]
          intro y hy
          obtain ⟨j, hj, rfl⟩ := List.getElem_of_mem hy
          have := HK.out j (by have := HMl.out; omega)
          simpa [hj] using this)
        go_wp2
        go_returns
        exact ⟨by rw [HF.out]; rfl, K⟩
  · have HF := Lib.hid (show askedR S E n xs = (0, (thr S E n).2.2) by simp [askedR, h])
    generalize askedR S E n xs = r at HF ⊢
    generalize thr S E n = x at *
    obtain ⟨x0, x1, x2⟩ := x
    simp only at *
    go_enter Try.func62, Try.ntmps62
    go_wp2_with (first
      | go_big_skip
      | (refine own_box 3 (sysV S A c R d) O rfl rfl rfl rfl ?_; clear O; intro W a3 O; simp only [Act.put, List.setIfInBounds_toArray, List.set_cons_zero, List.set_cons_succ])
      | (refine own_load 14 0 O rfl rfl rfl rfl rfl Try.underlying27 rfl (by kernel_rfl) ?_; simp only [Act.put, List.setIfInBounds_toArray, List.set_cons_zero, List.set_cons_succ])
      | (go_at_call 60; refine ((HT _ O.keep).out).mono ?_; rintro e W ⟨rfl, K⟩; replace O := O.keeps K; clear K))
    go_returns
    exact ⟨by rw [HF.out]; rfl, O.keep⟩
end
end Go.Proofs.Ytakmcpadkanggaa
namespace Go.Proofs.Ytakmcpadkanggaa
open Go.RowKit Go.Maps Go.Deep
theorem Blk.ne {W : World} {g g' t t' : Nat} {cs cs' : Array Value} (h : Blk W g t cs) (h' : Blk W g' t' cs') (ht : t ≠ t') : g ≠ g' := by
  rintro rfl
  rw [Blk, h] at h'
  injection h' with h'
  injection h' with _ h' _
  exact ht h'
section
variable {base : Nat} {W : World} {v : Value} {xs : List Int}
theorem Mint.off (h : Mint base W v xs) {g t : Nat} {cs : Array Value} (hB : Blk W g t cs) (ht : t ≠ 3) : g ∉ v.ownBlock.toList := by
  intro hm
  obtain ⟨_, _, cur, hcur⟩ := h.own (g := g) (by simpa using hm)
  exact hB.ne hcur ht rfl
theorem Mint.cell (h : Mint base W v xs) : v.cells = #[v] ∧ v.oneCell' = true := by
  rcases h.2 with ⟨rfl, _⟩ | ⟨g, cap, cur, rfl, _⟩
  · exact ⟨rfl, rfl⟩
  · exact ⟨rfl, rfl⟩
end
end Go.Proofs.Ytakmcpadkanggaa
namespace Go.Proofs.Ytakmcpadkanggaa
open Go.RowKit Go.Maps Go.Deep
section
variable {ops : Array Oper} {rest : List Oper} {o : Oper} {a : Act} {w W : World} {Q : Exit → Act → World → Prop} {S : List Nat} {L : List Ent} {x0 x1 x : Operand} {T : TypeId}
theorem own_litB (d : Nat) (n0 n1 : Int) (O : Own w W S L) (_hd : o.dst = some d) (hgd : o.guard = none) (ho : o.op = .buildSlice 25 2 #[(0, x0), (1, x1)]) (h0 : a.eval x0 = .int .i64 n0) (h1 : a.eval x1 = .int .i64 n1)
    (h : ∀ u g, Own w u S ((g, 3, #[.int .i64 n0, .int .i64 n1]) :: L) → Keeps W u [] → wpList Try.prog ops Q rest (a.put o.dst (.slice (some ⟨g, 0, none⟩) 2 2)) u) : wpList Try.prog ops Q (o :: rest) a W := by
  obtain ⟨i, hi, hz, hs, hb⟩ := info3
  have k := (Keeps.refl W []).alloc (.cells #[Value.int .i64 n0, .int .i64 n1] 3)
  refine wpList_buildSlice hgd 25 3 2 _ ho #[.int .i64 n0, .int .i64 n1] i (.int .i64 0) Try.underlying25 hi hz (by rw [hs]; decide) (by rw [hs]; decide) ?_ (h _ _ (O.add k (Blk.new _ _ _)) k)
  rw [hs]
  have e : ((#[(0, x0), (1, x1)] : Array (Nat × Operand)).map (fun (i, x) => (i, a.eval x))).toList = [(0, .int .i64 n0), (1, .int .i64 n1)] := by simp [h0, h1]
  rw [e]
  have r : Array.range 2 = #[0, 1] := by decide
  simp [Instr.fill, r, Value.cells]
end
theorem litB_cell {W : World} {g : Nat} {n0 n1 : Int} (h : Blk W g 3 #[.int .i64 n0, .int .i64 n1]) {j : Nat} (hj : j < [n0, n1].length) : W.cell? ((⟨g, 0, none⟩ : Addr).add j) = some (.int .i64 ([n0, n1].getD j 0)) := by
  rw [blk_add h j]
  match j, hj with
  | 0, _ => rfl
  | 1, _ => rfl
/-- What Before answers. -/
def beforeR (S : Sys) (E : Nat → Ev) (n : Nat) (i j : Int) : Bool × Int :=
  if (askedR S E n [i, j]).2 = 0 then (befB E (rmS S) i.toNat j.toNat, 0) else (false, (askedR S E n [i, j]).2)
section
variable {w : World} {S : Sys} {A : Option Addr} {c : Nat} {R : Option Addr} {d n : Nat} {E : Nat → Ev} {B : Option Addr} {cb : Nat}
theorem val_rooms {S : Sys} (h : validB S = true) : ∀ q, q < S.nr → 1 ≤ S.rm q ∧ S.rm q ≤ 1000000 := fun q hq => by
  have := ((validB_iff S).1 h).2.1 q hq
  simp [roomB] at this
  omega
theorem thr_r (h : (thr S E n).2.2 = 0) : (thr S E n).1 = (stN E n).r := by
  unfold thr at h ⊢
  cases hv : validB S with
  | false => rw [hv] at h; simp at h
  | true =>
    rw [hv] at h
    by_cases hn : 40000 < n
    · simp [hn] at h
    · rw [if_pos rfl, if_neg hn] at h
      cases hf : firstBad S E n with
      | some i => rw [hf] at h; simp at h
      | none => rw [if_pos rfl, if_neg hn]
theorem asked_two (i j : Int) (h : (askedR S E n [i, j]).2 = 0) : (thr S E n).2.2 = 0 ∧ (0 ≤ i ∧ i < n) ∧ (0 ≤ j ∧ j < n) ∧ askedR S E n [i, j] = ((stN E n).r, 0) := by
  unfold askedR at h ⊢
  by_cases h0 : (thr S E n).2.2 = 0
  · rw [if_pos h0] at h ⊢
    by_cases hi : [i, j].all (insB n) = true
    · have h2 := hi
      simp only [List.all_cons, List.all_nil, Bool.and_true, Bool.and_eq_true, insB, decide_eq_true_eq] at h2
      exact ⟨h0, h2.1, h2.2, by rw [if_pos hi, thr_r h0]⟩
    · rw [if_neg hi] at h; simp at h
  · rw [if_neg h0] at h; exact absurd h h0
set_option maxRecDepth 100000 in
set_option maxHeartbeats 1000000 in
theorem tbefore_any (hS : SysIn w S A c R d) (hE : EvsAt w B n E) (hcb : n ≤ cb) (hwf : ∀ i, i < n → (Lit.int .i64 (E i).a).wf = true) (i j : Int) : Calls Try.prog 44 #[.agg (sysV S A c R d), .slice B n cb, .int .i64 i, .int .i64 j] w fun e u => e = .returned (.tuple #[.bool (beforeR S E n i j).1, .int .i64 (beforeR S E n i j).2]) ∧ Keeps w u [] := by
  have O := Own.start w []
  have HA := Lib.hid (show ∀ u, Keeps w u [] → ∀ v, IntL u v [i, j] → Calls Try.prog 62 #[.agg (sysV S A c R d), .slice B n cb, v] u fun e w' => e = .returned (.tuple #[.int .i64 (askedR S E n [i, j]).1, .int .i64 (askedR S E n [i, j]).2]) ∧ Keeps u w' [] from fun u k v hv => asked_any (cb := cb) (hS.kept k) (hE.kept k) hwf v [i, j] hv (by simp))
  by_cases h : (askedR S E n [i, j]).2 = 0
  · obtain ⟨ht, ⟨hi0, hi1⟩, ⟨hj0, hj1⟩, hR⟩ := asked_two i j h
    obtain ⟨hv, hn, hok⟩ := thr_zero ht
    have hl := stN_le E n
    obtain ⟨p, rfl⟩ : ∃ p : Nat, i = (p : Int) := ⟨i.toNat, by omega⟩
    obtain ⟨q, rfl⟩ : ∃ q : Nat, j = (q : Int) := ⟨j.toNat, by omega⟩
    obtain ⟨r, hr⟩ : ∃ r : Nat, (stN E n).r = (r : Int) := ⟨(stN E n).r.toNat, by omega⟩
    have HF := Lib.hid (show beforeR S E n (p : Int) (q : Int) = (befB E (rmS S) p q, 0) by unfold beforeR; rw [if_pos h]; simp)
    have HB := Lib.hid (fun u (K : Keeps w u []) => before_any (cb := cb) (r := r) (i := p) (j := q) (hS.kept K) (hE.kept K) (val_rooms hv) hok hn hwf (by omega) (by omega) (by omega) (by omega) hcb)
    rw [hR, hr] at HA
    clear hS hE hcb hwf h ht hi0 hi1 hj0 hj1 hR hv hn hok hl hr
    go_enter Try.func44, Try.ntmps44
    go_wp2_with (first
      | go_big_skip
      | (refine own_box 4 (sysV S A c R d) O rfl rfl rfl rfl ?_; clear O; intro W b4 O; simp only [Act.put, List.setIfInBounds_toArray, List.set_cons_zero, List.set_cons_succ])
      | (refine own_load 13 0 O rfl rfl rfl rfl rfl Try.underlying27 rfl (by kernel_rfl) ?_; simp only [Act.put, List.setIfInBounds_toArray, List.set_cons_zero, List.set_cons_succ])
      | (refine own_load 24 0 O rfl rfl rfl rfl rfl Try.underlying27 rfl (by kernel_rfl) ?_; simp only [Act.put, List.setIfInBounds_toArray, List.set_cons_zero, List.set_cons_succ])
      | (refine own_litB 17 (p : Int) (q : Int) O rfl rfl rfl rfl rfl ?_; clear O; intro W gl O K1; clear K1; simp only [Act.put, List.setIfInBounds_toArray, List.set_cons_zero, List.set_cons_succ])
      | (go_at_call 62; refine (HA.out _ O.keep _ ⟨_, 2, rfl, fun _ => ⟨⟨gl, 0, none⟩, rfl, O.lt 0 rfl, fun j hj => litB_cell (O.get 0 rfl) hj⟩⟩).mono ?_; rintro e W ⟨rfl, K⟩; replace O := (O.keeps K).drop_ 1; clear K)
      | (go_at_call 79; refine (HB.out _ O.keep).mono ?_; rintro e W ⟨rfl, K⟩; replace O := O.keeps K; clear K))
    go_returns
    exact ⟨by rw [HF.out]; rfl, O.keep⟩
  · have HF := Lib.hid (show beforeR S E n i j = (false, (askedR S E n [i, j]).2) by unfold beforeR; rw [if_neg h])
    generalize beforeR S E n i j = r at HF ⊢
    generalize askedR S E n [i, j] = x at HA HF h
    obtain ⟨x0, x1⟩ := x
    simp only at h HF HA
    clear hS hE hwf hcb
    go_enter Try.func44, Try.ntmps44
    go_wp2_with (first
      | go_big_skip
      | (refine own_box 4 (sysV S A c R d) O rfl rfl rfl rfl ?_; clear O; intro W b4 O; simp only [Act.put, List.setIfInBounds_toArray, List.set_cons_zero, List.set_cons_succ])
      | (refine own_load 13 0 O rfl rfl rfl rfl rfl Try.underlying27 rfl (by kernel_rfl) ?_; simp only [Act.put, List.setIfInBounds_toArray, List.set_cons_zero, List.set_cons_succ])
      | (refine own_litB 17 i j O rfl rfl rfl rfl rfl ?_; clear O; intro W gl O K1; clear K1; simp only [Act.put, List.setIfInBounds_toArray, List.set_cons_zero, List.set_cons_succ])
      | (go_at_call 62; refine (HA.out _ O.keep _ ⟨_, 2, rfl, fun _ => ⟨⟨gl, 0, none⟩, rfl, O.lt 0 rfl, fun j hj => litB_cell (O.get 0 rfl) hj⟩⟩).mono ?_; rintro e W ⟨rfl, K⟩; replace O := (O.keeps K).drop_ 1; clear K))
    go_returns
    exact ⟨by rw [HF.out]; rfl, O.keep⟩
end
end Go.Proofs.Ytakmcpadkanggaa
namespace Go.Proofs.Ytakmcpadkanggaa
open Go.RowKit Go.Maps Go.Deep
/-- What the document's Before answers. -/
def refBR (S : Sys) (E : Nat → Ev) (n : Nat) (i j : Int) : Bool × Int :=
  if (thr S E n).2.2 = 0 then (if (0 ≤ i ∧ i < n) ∧ (0 ≤ j ∧ j < n) then (behT E (rmS S) i.toNat n j, 0) else (false, 1)) else (false, (thr S E n).2.2)
end Go.Proofs.Ytakmcpadkanggaa
namespace Go.Proofs.Ytakmcpadkanggaa
open Go.RowKit
theorem before_eq (S : Sys) (E : Nat → Ev) (n : Nat) (i j : Int) : beforeR S E n i j = refBR S E n i j := by
  by_cases h : (thr S E n).2.2 = 0
  · by_cases hb : (0 ≤ i ∧ i < n) ∧ (0 ≤ j ∧ j < n)
    · have ha : [i, j].all (insB n) = true := by simp [insB, hb]
      obtain ⟨_, _, hok⟩ := thr_zero h
      obtain ⟨⟨h1, h2⟩, h3, h4⟩ := hb
      unfold beforeR refBR askedR
      rw [if_pos h, if_pos ha, if_pos rfl, if_pos h, if_pos ⟨⟨h1, h2⟩, h3, h4⟩, bef_beh hok (by omega) (by omega)]
      rw [show ((j.toNat : Nat) : Int) = j by omega]
    · have ha : ¬ [i, j].all (insB n) = true := fun hh => hb (by simpa [insB] using hh)
      unfold beforeR refBR askedR
      rw [if_pos h, if_neg ha, if_neg (by simp), if_pos h, if_neg hb]
  · unfold beforeR refBR askedR
    rw [if_neg h, if_neg h, if_neg h]
end Go.Proofs.Ytakmcpadkanggaa
namespace Go.Proofs.Ytakmcpadkanggaa
open Go.RowKit
section
variable {S : Sys} {E : Nat → Ev} {rm : Int → Int} {n i j k : Nat}
theorem bef_lt (h : befB E rm i j = true) : i < j := by unfold befB at h; simpa using (Bool.and_eq_true_iff.1 h).1
theorem bef_bh (hok : OkAll S E n) (hi : i < n) (hj : j < n) : befB E rm i j = true ↔ Bh E rm i j := by
  rw [bef_beh hok hi hj, behT_iff hok j hj]
end
end Go.Proofs.Ytakmcpadkanggaa
namespace Go.Proofs.Ytakmcpadkanggaa
open Go.RowKit
/-- Is there a walk of d edges from m to j? -/
def pwB (I : Nat → List Int) (j : Nat) : Nat → Nat → Bool
  | 0, m => decide (m = j)
  | d + 1, m => (List.range (j + 1)).any fun k => decide ((m : Int) ∈ I k) && pwB I j d k
/-- The shortest walk from m to j has d edges. -/
def Ds (I : Nat → List Int) (j m d : Nat) : Prop := pwB I j d m = true ∧ ∀ e, e < d → pwB I j e m = false
/-- Edges lead upwards. -/
def Up (I : Nat → List Int) (n : Nat) : Prop := ∀ k, k < n → ∀ x ∈ I k, 0 ≤ x ∧ x < (k : Int)
open Classical in
/-- How far it is from m to j; -1: no walk. -/
noncomputable def dsI (I : Nat → List Int) (j m : Nat) : Int := if h : ∃ d, Ds I j m d then ((Classical.choose h : Nat) : Int) else -1
section
variable {I : Nat → List Int} {i j n m k x y d e : Nat}
theorem pwB_zero : pwB I j 0 m = true ↔ m = j := by simp [pwB]
theorem pwB_succ : pwB I j (d + 1) m = true ↔ ∃ k, k ≤ j ∧ (m : Int) ∈ I k ∧ pwB I j d k = true := by
  simp only [pwB, List.any_eq_true, List.mem_range, Bool.and_eq_true, decide_eq_true_eq]
  constructor
  · rintro ⟨k, h1, h2, h3⟩; exact ⟨k, by omega, h2, h3⟩
  · rintro ⟨k, h1, h2, h3⟩; exact ⟨k, by omega, h2, h3⟩
theorem pwB_le (hI : Up I n) (hj : j < n) : ∀ {d m}, pwB I j d m = true → m ≤ j
  | 0, m, h => by rw [pwB_zero] at h; omega
  | d + 1, m, h => by
    obtain ⟨k, hk, hm, _⟩ := pwB_succ.1 h
    have := hI k (by omega) _ hm
    omega
theorem pwB_sum (hI : Up I n) (hj : j < n) : ∀ {d m}, pwB I j d m = true → m + d ≤ j
  | 0, m, h => by rw [pwB_zero] at h; omega
  | d + 1, m, h => by
    obtain ⟨k, hk, hm, hp⟩ := pwB_succ.1 h
    have := hI k (by omega) _ hm
    have := pwB_sum hI hj hp
    omega
theorem ds_ex : ∀ d, pwB I j d m = true → ∃ e, e ≤ d ∧ Ds I j m e := by
  intro d
  induction d using Nat.strongRecOn with
  | ind d ih =>
    intro h
    by_cases hx : ∃ e, e < d ∧ pwB I j e m = true
    · obtain ⟨e, he, hp⟩ := hx
      obtain ⟨e', h1, h2⟩ := ih e he hp
      exact ⟨e', by omega, h2⟩
    · exact ⟨d, Nat.le_refl _, h, fun e he => by
        cases hb : pwB I j e m with
        | false => rfl
        | true => exact absurd ⟨e, he, hb⟩ hx⟩
theorem Ds.unique (h : Ds I j m d) (h' : Ds I j m e) : d = e := by
  rcases Nat.lt_trichotomy d e with hl | hl | hl
  · have := h'.2 d hl; rw [h.1] at this; cases this
  · exact hl
  · have := h.2 e hl; rw [h'.1] at this; cases this
theorem dsI_of (h : Ds I j m d) : dsI I j m = (d : Int) := by
  have hx : ∃ d, Ds I j m d := ⟨d, h⟩
  unfold dsI
  rw [dif_pos hx, (Classical.choose_spec hx).unique h]
theorem dsI_none (h : ∀ d, ¬ Ds I j m d) : dsI I j m = -1 := by
  unfold dsI
  rw [dif_neg (fun ⟨d, hd⟩ => h d hd)]
theorem dsI_iff : dsI I j m = (d : Int) ↔ Ds I j m d := by
  constructor
  · intro h
    by_cases hx : ∃ e, Ds I j m e
    · obtain ⟨e, he⟩ := hx
      rw [dsI_of he] at h
      obtain rfl : e = d := by omega
      exact he
    · rw [dsI_none (fun d hd => hx ⟨d, hd⟩)] at h; omega
  · exact dsI_of
theorem dsI_cases : (dsI I j m = -1 ∧ ∀ d, ¬ Ds I j m d) ∨ ∃ d, Ds I j m d ∧ dsI I j m = (d : Int) := by
  by_cases hx : ∃ e, Ds I j m e
  · obtain ⟨e, he⟩ := hx
    exact .inr ⟨e, he, dsI_of he⟩
  · exact .inl ⟨dsI_none (fun d hd => hx ⟨d, hd⟩), fun d hd => hx ⟨d, hd⟩⟩
theorem ds_next (h : Ds I j m (d + 1)) : ∃ k, k ≤ j ∧ (m : Int) ∈ I k ∧ Ds I j k d := by
  obtain ⟨k, hk, hm, hp⟩ := pwB_succ.1 h.1
  refine ⟨k, hk, hm, hp, fun e he => ?_⟩
  cases hb : pwB I j e k with
  | false => rfl
  | true =>
    have := h.2 (e + 1) (by omega)
    rw [pwB_succ.2 ⟨k, hk, hm, hb⟩] at this
    cases this
/-- Behind a shortest walk's edge, a walk of one edge less is a shortest one. -/
theorem ds_step (h : Ds I j m (d + 1)) (hk : k ≤ j) (hm : (m : Int) ∈ I k) (hp : pwB I j d k = true) : Ds I j k d := ⟨hp, fun e he => by
  cases hb : pwB I j e k with
  | false => rfl
  | true =>
    have := h.2 (e + 1) (by omega)
    rw [pwB_succ.2 ⟨k, hk, hm, hb⟩] at this
    cases this⟩
theorem ds_edge (hk : k ≤ j) (hm : (m : Int) ∈ I k) (h : Ds I j k d) : ∃ e, e ≤ d + 1 ∧ Ds I j m e := ds_ex (d + 1) (pwB_succ.2 ⟨k, hk, hm, h.1⟩)
theorem ds_le (hI : Up I n) (hj : j < n) (h : Ds I j m d) : m + d ≤ j := pwB_sum hI hj h.1
theorem ds_self : Ds I j j 0 := ⟨pwB_zero.2 rfl, fun e he => by omega⟩
theorem ds_zero (h : Ds I j m 0) : m = j := pwB_zero.1 h.1
theorem pwB_on (hkj : k ≤ j) (hk : (k : Int) ∈ I j) : ∀ {d m}, pwB I k d m = true → pwB I j (d + 1) m = true
  | 0, m, h => by
    rw [pwB_zero] at h
    subst h
    exact pwB_succ.2 ⟨j, Nat.le_refl _, hk, pwB_zero.2 rfl⟩
  | d + 1, m, h => by
    obtain ⟨k', h1, h2, h3⟩ := pwB_succ.1 h
    exact pwB_succ.2 ⟨k', by omega, h2, pwB_on hkj hk h3⟩
/-- The next event of the way: the first from which the end is e edges away. -/
def nxW (I : Nat → List Int) (j e x : Nat) : Nat := ((List.range (j + 1)).find? fun y => decide ((x : Int) ∈ I y) && pwB I j e y).getD 0
/-- The way from x on. -/
def wayL (I : Nat → List Int) (j : Nat) : Nat → Nat → List Int
  | 0, x => [(x : Int)]
  | e + 1, x => (x : Int) :: wayL I j e (nxW I j e x)
theorem wayL_length : ∀ {e x}, (wayL I j e x).length = e + 1
  | 0, _ => rfl
  | e + 1, x => by rw [wayL, List.length_cons, wayL_length]
theorem find_range (p : Nat → Bool) {m y : Nat} (hy : y < m) (hp : p y = true) (hn : ∀ z, z < y → p z = false) : (List.range m).find? p = some y := by
  rw [List.find?_eq_some_iff_append]
  refine ⟨hp, List.range y, (List.range' (y + 1) (m - (y + 1))), ?_, fun z hz => by simp [hn z (List.mem_range.1 hz)]⟩
  have : m = y + ((m - (y + 1)) + 1) := by omega
  conv => lhs; rw [this, List.range_eq_range', ← List.range'_append_1, List.range'_succ]
  simp [List.range_eq_range']
theorem nxW_is (hy : y ≤ j) (hm : (x : Int) ∈ I y) (hp : pwB I j e y = true) (hn : ∀ z, z < y → ¬ ((x : Int) ∈ I z ∧ pwB I j e z = true)) : nxW I j e x = y := by
  unfold nxW
  rw [find_range _ (show y < j + 1 by omega) (by simp [hm, hp]) (fun z hz => by
    have := hn z hz
    cases hb : pwB I j e z with
    | false => simp
    | true =>
      have : ¬ (x : Int) ∈ I z := fun q => this ⟨q, hb⟩
      simp [this])]
  rfl
theorem nxW_law (h : Ds I j x (e + 1)) : nxW I j e x ≤ j ∧ (x : Int) ∈ I (nxW I j e x) ∧ Ds I j (nxW I j e x) e := by
  obtain ⟨k, hk, hm, hd⟩ := ds_next h
  have hs : ((List.range (j + 1)).find? fun y => decide ((x : Int) ∈ I y) && pwB I j e y).isSome = true := by
    rw [List.find?_isSome]
    exact ⟨k, List.mem_range.2 (by omega), by simp [hm, hd.1]⟩
  obtain ⟨y, hy⟩ := Option.isSome_iff_exists.1 hs
  have e1 : nxW I j e x = y := by unfold nxW; rw [hy]; rfl
  have h1 := List.find?_some hy
  have h2 := List.mem_range.1 (List.mem_of_find?_eq_some hy)
  simp only [Bool.and_eq_true, decide_eq_true_eq] at h1
  rw [e1]
  exact ⟨by omega, h1.1, ds_step h (by omega) h1.1 h1.2⟩
/-- Each pair of neighbours is an edge; the ends. -/
theorem wayL_law : ∀ {e x}, Ds I j x e → (wayL I j e x).head? = some (x : Int) ∧ (wayL I j e x).getLast? = some (j : Int) ∧ ∀ t, t + 1 < (wayL I j e x).length → ∃ a b : Nat, (wayL I j e x)[t]? = some (a : Int) ∧ (wayL I j e x)[t + 1]? = some (b : Int) ∧ b ≤ j ∧ (a : Int) ∈ I b
  | 0, x, h => by
    have := ds_zero h
    subst this
    exact ⟨rfl, rfl, fun t ht => by simp [wayL] at ht⟩
  | e + 1, x, h => by
    obtain ⟨h1, h2, h3⟩ := nxW_law h
    obtain ⟨i1, i2, i3⟩ := wayL_law h3
    refine ⟨rfl, ?_, fun t ht => ?_⟩
    · rw [wayL, List.getLast?_cons, i2]; rfl
    · match t, ht with
      | 0, ht =>
        refine ⟨x, nxW I j e x, rfl, ?_, h1, h2⟩
        rw [wayL, List.getElem?_cons_succ, ← List.head?_eq_getElem?, i1]
      | t + 1, ht =>
        obtain ⟨a, b, q1, q2, q3, q4⟩ := i3 t (by rw [wayL, List.length_cons] at ht; omega)
        exact ⟨a, b, by rw [wayL, List.getElem?_cons_succ]; exact q1, by rw [wayL, List.getElem?_cons_succ]; exact q2, q3, q4⟩
/-- What holds of the events found (in their order), of which h have been taken. -/
structure Bfs (I : Nat → List Int) (i j : Nat) (L : List Nat) (h : Nat) : Prop where
  nd : L.Nodup
  hd : L[0]? = some j
  rng : ∀ m ∈ L, i ≤ m ∧ m ≤ j
  ds : ∀ m ∈ L, 0 ≤ dsI I j m
  srt : ∀ (a b x y : Nat), a ≤ b → L[a]? = some x → L[b]? = some y → dsI I j x ≤ dsI I j y
  cl : ∀ (t x : Nat), t < h → L[t]? = some x → ∀ m : Nat, (m : Int) ∈ I x → i ≤ m → m ∈ L
  no : ∀ (t : Nat), t < h → L[t]? ≠ some i
  near : ∀ (x : Nat), L[h]? = some x → ∀ y ∈ L, dsI I j y ≤ dsI I j x + 1
theorem Bfs.start (hij : i ≤ j) : Bfs I i j [j] 0 := by
  refine ⟨by simp, rfl, by simp [hij], ?_, ?_, fun t x ht => by omega, fun t ht => by omega, ?_⟩
  · intro m hm
    obtain rfl : m = j := by simpa using hm
    rw [dsI_of ds_self]; omega
  · intro a b x y _ hx hy
    have hx := List.mem_of_getElem? hx
    have hy := List.mem_of_getElem? hy
    obtain rfl : x = j := by simpa using hx
    obtain rfl : y = x := by simpa using hy
    omega
  · intro x hx y hy
    obtain rfl : j = x := by simpa using hx
    obtain rfl : y = j := by simpa using hy
    omega
variable {L : List Nat} {h : Nat}
/-- What is nearer than the next one has been taken. -/
theorem Bfs.disc (hI : Up I n) (hj : j < n) (B : Bfs I i j L h) (hx : L[h]? = some x) : ∀ e m, Ds I j m e → i ≤ m → (e : Int) < dsI I j x → ∃ t, t < h ∧ L[t]? = some m := by
  intro e
  induction e with
  | zero =>
    intro m hm him hlt
    have := ds_zero hm
    subst this
    refine ⟨0, ?_, B.hd⟩
    rcases Nat.eq_zero_or_pos h with q | q
    · subst q
      rw [B.hd] at hx
      injection hx with hx
      subst hx
      rw [dsI_of ds_self] at hlt
      omega
    · exact q
  | succ e ih =>
    intro m hm him hlt
    obtain ⟨k, hk, hmk, hd⟩ := ds_next hm
    have hu := hI k (by omega) _ hmk
    obtain ⟨t, ht, hLt⟩ := ih k hd (by omega) (by omega)
    have hmL := B.cl t k ht hLt m hmk him
    obtain ⟨t', ht'⟩ := List.mem_iff_getElem?.1 hmL
    refine ⟨t', Nat.lt_of_not_le fun hl => ?_, ht'⟩
    have := B.srt h t' x m hl hx ht'
    rw [dsI_of hm] at this
    omega
theorem Bfs.found (hI : Up I n) (hj : j < n) (B : Bfs I i j L h) (hx : L[h]? = some x) (hm : Ds I j m e) (him : i ≤ m) (hl : (e : Int) ≤ dsI I j x) : m ∈ L := by
  match e, hm with
  | 0, hm => have := ds_zero hm; subst this; exact List.mem_of_getElem? B.hd
  | e + 1, hm =>
    obtain ⟨k, hk, hmk, hd⟩ := ds_next hm
    have hu := hI k (by omega) _ hmk
    obtain ⟨t, ht, hLt⟩ := B.disc hI hj hx e k hd (by omega) (by omega)
    exact B.cl t k ht hLt m hmk him
theorem Bfs.lt (hI : Up I n) (hj : j < n) (B : Bfs I i j L h) (hd : Ds I j i d) : h < L.length := by
  refine Nat.lt_of_not_le fun hl => ?_
  have all : ∀ e m, Ds I j m e → i ≤ m → m ∈ L := by
    intro e
    induction e with
    | zero => intro m hm _; have := ds_zero hm; subst this; exact List.mem_of_getElem? B.hd
    | succ e ih =>
      intro m hm him
      obtain ⟨k, hk, hmk, hd⟩ := ds_next hm
      have hu := hI k (by omega) _ hmk
      obtain ⟨t, ht⟩ := List.mem_iff_getElem?.1 (ih k hd (by omega))
      have hlt := (List.getElem?_eq_some_iff.1 ht).1
      exact B.cl t k (by omega) ht m hmk him
  obtain ⟨t, ht⟩ := List.mem_iff_getElem?.1 (all d i hd (Nat.le_refl _))
  have hlt := (List.getElem?_eq_some_iff.1 ht).1
  exact B.no t (by omega) ht
/-- An event found at the one that is being taken. -/
theorem Bfs.dist (hI : Up I n) (hj : j < n) (B : Bfs I i j L h) (hx : L[h]? = some x) (hy : (y : Int) ∈ I x) (hiy : i ≤ y) (hn : y ∉ L) : dsI I j y = dsI I j x + 1 := by
  have hxL := List.mem_of_getElem? hx
  have hxj := (B.rng x hxL).2
  rcases dsI_cases (I := I) (j := j) (m := x) with ⟨q, _⟩ | ⟨d, hd, hdx⟩
  · have := B.ds x hxL; omega
  obtain ⟨e, he, hey⟩ := ds_edge hxj hy hd
  rw [dsI_of hey, hdx]
  by_cases hl : e ≤ d
  · exact absurd (B.found hI hj hx hey hiy (by omega)) hn
  · omega
theorem Bfs.push (hI : Up I n) (hj : j < n) (B : Bfs I i j L h) (hx : L[h]? = some x) (hy : (y : Int) ∈ I x) (hiy : i ≤ y) (hn : y ∉ L) : Bfs I i j (L ++ [y]) h := by
  have hxL := List.mem_of_getElem? hx
  have hxj := (B.rng x hxL).2
  have hlt := (List.getElem?_eq_some_iff.1 hx).1
  have hdy := B.dist hI hj hx hy hiy hn
  have hu := hI x (by omega) _ hy
  have hold : ∀ {t z}, (L ++ [y])[t]? = some z → (L[t]? = some z) ∨ (t = L.length ∧ z = y) := fun {t z} ht => by
    rcases Nat.lt_or_ge t L.length with q | q
    · rw [List.getElem?_append_left q] at ht; exact .inl ht
    · rw [List.getElem?_append_right q] at ht
      match hq : t - L.length, ht with
      | 0, ht => exact .inr ⟨by omega, by simp at ht; exact ht.symm⟩
      | s + 1, ht => simp at ht
  refine ⟨?_, ?_, ?_, ?_, ?_, ?_, ?_, ?_⟩
  · rw [List.nodup_append]
    exact ⟨B.nd, by simp, fun a ha b hb => by
      obtain rfl : b = y := by simpa using hb
      exact fun q => hn (q ▸ ha)⟩
  · rw [List.getElem?_append_left (by omega)]; exact B.hd
  · intro m hm
    rcases List.mem_append.1 hm with q | q
    · exact B.rng m q
    · obtain rfl : m = y := by simpa using q
      omega
  · intro m hm
    rcases List.mem_append.1 hm with q | q
    · exact B.ds m q
    · obtain rfl : m = y := by simpa using q
      have := B.ds x hxL; omega
  · intro a b z z' hab hz hz'
    rcases hold hz with q | ⟨q, rfl⟩
    · rcases hold hz' with q' | ⟨q', rfl⟩
      · exact B.srt a b z z' hab q q'
      · have := B.near x hx z (List.mem_of_getElem? q); omega
    · rcases hold hz' with q' | ⟨q', rfl⟩
      · have := (List.getElem?_eq_some_iff.1 q').1; omega
      · omega
  · intro t z ht hz m hm him
    rcases hold hz with q | ⟨q, rfl⟩
    · exact List.mem_append_left _ (B.cl t z ht q m hm him)
    · omega
  · intro t ht
    rw [List.getElem?_append_left (by omega)]
    exact B.no t ht
  · intro z hz z' hz'
    rw [List.getElem?_append_left hlt, hx] at hz
    injection hz with hz
    subst hz
    rcases List.mem_append.1 hz' with q | q
    · exact B.near x hx z' q
    · obtain rfl : z' = y := by simpa using q
      omega
theorem Bfs.next (B : Bfs I i j L h) (hx : L[h]? = some x) (hi : x ≠ i) (hc : ∀ m : Nat, (m : Int) ∈ I x → i ≤ m → m ∈ L) : Bfs I i j L (h + 1) := by
  refine ⟨B.nd, B.hd, B.rng, B.ds, B.srt, fun t z ht hz m hm him => ?_, fun t ht => ?_, fun z hz y hy => ?_⟩
  · by_cases e : t = h
    · subst e
      rw [hx] at hz
      injection hz with hz
      subst hz
      exact hc m hm him
    · exact B.cl t z (by omega) hz m hm him
  · by_cases e : t = h
    · subst e
      rw [hx]
      exact fun q => hi (by injection q)
    · exact B.no t (by omega)
  · have := B.srt h (h + 1) x z (by omega) hx hz
    have := B.near x hx y hy
    omega
theorem nodup_len : ∀ {n : Nat} {L : List Nat}, L.Nodup → (∀ m ∈ L, m < n) → L.length ≤ n
  | 0, L, _, h => by
    cases L with
    | nil => simp
    | cons a l => have := h a (by simp); omega
  | n + 1, L, hd, h => by
    have h1 := nodup_len (n := n) (L := L.erase n) (hd.erase n) (fun m hm => by
      have := h m (List.mem_of_mem_erase hm)
      have : m ≠ n := fun e => by
        subst e
        exact (List.Nodup.not_mem_erase hd) hm
      omega)
    rw [List.length_erase] at h1
    split at h1 <;> omega
theorem Bfs.len (B : Bfs I i j L h) : L.length ≤ j + 1 := nodup_len B.nd fun m hm => by have := B.rng m hm; omega
end
section
variable {S : Sys} {E : Nat → Ev} {rm : Int → Int} {n i j k d : Nat}
theorem into_up (hok : OkAll S E n) : Up (intoL E rm) n := fun k hk x hx => intoL_lt (hok k hk) hx
theorem bh_pw (hok : OkAll S E n) (h : Bh E rm i j) : j < n → ∃ d, pwB (intoL E rm) j (d + 1) i = true := by
  induction h with
  | edge h => exact fun _ => ⟨0, pwB_succ.2 ⟨_, Nat.le_refl _, h, pwB_zero.2 rfl⟩⟩
  | step _ h ih =>
    intro hj
    have := intoL_lt (hok _ hj) h
    obtain ⟨d, hd⟩ := ih (by omega)
    exact ⟨d + 1, pwB_on (by omega) h hd⟩
theorem bef_ds (hok : OkAll S E n) (hi : i < n) (hj : j < n) (h : befB E rm i j = true) : ∃ d, Ds (intoL E rm) j i (d + 1) := by
  obtain ⟨d, hd⟩ := bh_pw hok ((bef_bh hok hi hj).1 h) hj
  obtain ⟨e, _, he⟩ := ds_ex _ hd
  have := bef_lt h
  match e, he with
  | 0, he => have := ds_zero he; omega
  | e + 1, he => exact ⟨e, he⟩
/-- What Way answers. -/
noncomputable def wayR (S : Sys) (E : Nat → Ev) (n : Nat) (i j : Int) : List Int × Int :=
  if (beforeR S E n i j).2 = 0 ∧ (beforeR S E n i j).1 = true then (wayL (intoL E (rmS S)) j.toNat (dsI (intoL E (rmS S)) j.toNat i.toNat).toNat i.toNat, 0) else ([], (beforeR S E n i j).2)
theorem way_no {i j : Int} (h : ¬ ((beforeR S E n i j).2 = 0 ∧ (beforeR S E n i j).1 = true)) : wayR S E n i j = ([], (beforeR S E n i j).2) := if_neg h
/-- All that the walks want to know where one event is before the other. -/
theorem way_yes {i j : Int} (h : (beforeR S E n i j).2 = 0) (h' : (beforeR S E n i j).1 = true) : ∃ p q d : Nat, i = (p : Int) ∧ j = (q : Int) ∧ p < q ∧ q < n ∧ n ≤ 40000 ∧ validB S = true ∧ OkAll S E n ∧ befB E (rmS S) p q = true ∧ Ds (intoL E (rmS S)) q p (d + 1) ∧ wayR S E n i j = (wayL (intoL E (rmS S)) q (d + 1) p, 0) := by
  have hw : wayR S E n i j = _ := if_pos ⟨h, h'⟩
  unfold beforeR at h h'
  by_cases ha : (askedR S E n [i, j]).2 = 0
  · rw [if_pos ha] at h'
    obtain ⟨ht, ⟨hi0, hi1⟩, ⟨hj0, hj1⟩, _⟩ := asked_two i j ha
    obtain ⟨hv, hn, hok⟩ := thr_zero ht
    obtain ⟨d, hd⟩ := bef_ds (rm := rmS S) hok (i := i.toNat) (j := j.toNat) (by omega) (by omega) h'
    have := bef_lt h'
    refine ⟨i.toNat, j.toNat, d, by omega, by omega, this, by omega, hn, hv, hok, h', hd, ?_⟩
    rw [hw, dsI_of hd]
    rfl
  · rw [if_neg ha] at h'
    cases h'
end
end Go.Proofs.Ytakmcpadkanggaa
namespace Go.Proofs.Ytakmcpadkanggaa
open Go.RowKit Go.Maps Go.Deep
theorem blk_setCells {g t : Nat} : ∀ (vs : List Value) (o : Nat) {W : World} {cs : Array Value}, Blk W g t cs → o + vs.length ≤ cs.size →
    ∃ cs', Blk (W.setCells g o vs) g t cs' ∧ cs'.size = cs.size ∧ (∀ j, cs'[j]? = if o ≤ j ∧ j < o + vs.length then vs[j - o]? else cs[j]?) ∧ Keeps W (W.setCells g o vs) [g]
  | [], o, W, cs, hB, _ => ⟨cs, hB, rfl, fun j => by rw [if_neg (by simp)], Keeps.refl W _⟩
  | v :: vs, o, W, cs, hB, h => by
    have hl : (v :: vs).length = vs.length + 1 := rfl
    obtain ⟨cs', h1, h2, h3, h4⟩ := blk_setCells vs (o + 1) (hB.setCell o v) (by rw [Array.size_setIfInBounds]; omega)
    rw [Array.size_setIfInBounds] at h2
    refine ⟨cs', h1, h2, fun j => ?_, ((Keeps.refl W [g]).setCell _ _ (fun _ => by simp)).trans h4 (fun x hx _ => hx)⟩
    rw [h3 j]
    by_cases e1 : o + 1 ≤ j ∧ j < o + 1 + vs.length
    · rw [if_pos e1, if_pos ⟨by omega, by omega⟩, show j - o = (j - (o + 1)) + 1 by omega, List.getElem?_cons_succ]
    · rw [if_neg e1, Array.getElem?_setIfInBounds]
      by_cases e2 : o = j
      · subst e2
        rw [if_pos rfl, if_pos (show o < cs.size by omega), if_pos ⟨Nat.le_refl _, by omega⟩, Nat.sub_self]
        rfl
      · rw [if_neg e2, if_neg (by omega)]
/-- A window of a row that the call has made. -/
def QAt (base e size : Nat) (W : World) (v : Value) (n : Nat) (xs : List Value) : Prop :=
  xs.length = n * size ∧ ∃ g off cap cur, v = .slice (some ⟨g, off, none⟩) n cap ∧ base ≤ g ∧ Blk W g e cur ∧ n ≤ cap ∧ cap ≤ maxLen ∧ off + cap * size ≤ cur.size ∧ ∀ j, j < n * size → cur[off + j]? = xs[j]?
section
variable {base e size n : Nat} {W u : World} {v : Value} {xs : List Value} {S : List Nat}
theorem QAt.of_row (M : W.ownsRow base e size v n xs) (hn : 0 < n) : QAt base e size W v n xs := by
  refine ⟨M.1, ?_⟩
  rcases M.2 with ⟨_, h0⟩ | ⟨g, cap, cur, rfl, hb, hg, h1, h2, h3, h4⟩
  · omega
  · refine ⟨g, 0, cap, cur, rfl, hb, hg, h1, h2, by omega, fun j hj => ?_⟩
    rw [← h4, List.getElem?_take, if_pos hj, Nat.zero_add]
    simp
theorem QAt.own (q : QAt base e size W v n xs) {g : Nat} (hg : v.ownBlock = some g) : base ≤ g ∧ g < W.heap.size ∧ ∃ cur, Blk W g e cur := by
  obtain ⟨_, g', off, cap, cur, rfl, hb, hB, _⟩ := q
  obtain rfl : g' = g := by simpa [Value.ownBlock] using hg
  exact ⟨hb, hB.lt, cur, hB⟩
theorem QAt.keeps (q : QAt base e size W v n xs) (k : Keeps W u S) (hS : ∀ g, v.ownBlock = some g → g ∉ S) : QAt base e size u v n xs := by
  obtain ⟨hl, g, off, cap, cur, rfl, hb, hB, r⟩ := q
  exact ⟨hl, g, off, cap, cur, rfl, hb, hB.keeps k (hS g rfl), r⟩
theorem QAt.ne (q : QAt base e size W v n xs) {g t : Nat} {cs : Array Value} (hB : Blk W g t cs) (ht : t ≠ e) : v.ownBlock ≠ some g := fun hg => by
  obtain ⟨_, _, cur, hB'⟩ := q.own hg
  rw [Blk, hB] at hB'
  injection hB' with h
  injection h with _ h
  exact ht h
theorem QAt.shape (q : QAt base e size W v n xs) : ∃ g off cap, v = .slice (some ⟨g, off, none⟩) n cap ∧ n ≤ cap ∧ cap ≤ maxLen := by
  obtain ⟨_, g, off, cap, cur, rfl, _, _, h1, h2, _⟩ := q
  exact ⟨g, off, cap, rfl, h1, h2⟩
theorem QAt.cell {g off cap : Nat} (q : QAt base e size W (.slice (some ⟨g, off, none⟩) n cap) n xs) {j : Nat} (hj : j < n * size) : W.cell? ⟨g, off + j, none⟩ = xs[j]? := by
  obtain ⟨_, g', off', cap', cur, hv, _, hB, _, _, _, h⟩ := q
  injection hv with h1 _ _
  injection h1 with h1
  injection h1 with h1 h2
  subst h1
  subst h2
  rw [hB.cell]
  exact h j hj
/-- The front is taken off. -/
theorem QAt.tail {g off cap : Nat} (q : QAt base e size W (.slice (some ⟨g, off, none⟩) (n + 1) cap) (n + 1) xs) {off' : Nat} (ho : cap ≠ 1 → off' = off + size) (ho1 : cap = 1 → off' = off) : QAt base e size W (.slice (some ⟨g, off', none⟩) n (cap - 1)) n (xs.drop size) := by
  obtain ⟨hl, g', off1, cap', cur, hv, hb, hB, h1, h2, h3, h⟩ := q
  injection hv with e1 e2 e3
  injection e1 with e1
  injection e1 with e1 e2
  subst e1
  subst e2
  subst e3
  have hm : cap * size = (cap - 1) * size + size := by
    obtain ⟨c, rfl⟩ : ∃ c, cap = c + 1 := ⟨cap - 1, by omega⟩
    simp [Nat.succ_mul]
  have hn : (n + 1) * size = n * size + size := Nat.succ_mul _ _
  refine ⟨by rw [List.length_drop, hl]; omega, g, off', cap - 1, cur, rfl, hb, hB, by omega, by omega, ?_, fun j hj => ?_⟩
  · by_cases c1 : cap = 1
    · have := ho1 c1; omega
    · have := ho c1; omega
  · by_cases c1 : cap = 1
    · obtain rfl : n = 0 := by omega
      omega
    · rw [ho c1, List.getElem?_drop, ← h (size + j) (by omega), Nat.add_assoc]
end
section
variable {ops : Array Oper} {rest : List Oper} {o : Oper} {a : Act} {w W : World} {Q : Exit → Act → World → Prop} {S : List Nat} {L : List Ent} {T e size bytes n base gl : Nat} {z v : Value} {xs : List Value} {cs : Array Value} {x0 : Operand}
set_option maxRecDepth 100000 in
/-- One element more. -/
theorem q_app (s y : Operand) (hT : RowT T e size bytes z) (O : Own w W S ((gl, e, cs) :: L)) (M : QAt base e size W v n xs) (hcs : cs.size = size) (h1 : ∀ u ∈ cs.toList, u.oneCell' = true) (hgd : o.guard = none)
    (ho : o.op = .call { callee := .builtin .append, args := #[s, y], argTypes := #[T, T] }) (hs : a.eval s = v) (hy : a.eval y = .slice (some ⟨gl, 0, none⟩) 1 1) (hb : w.heap.size ≤ base) (hbW : base ≤ W.heap.size) (hL : ∀ q ∈ L, v.ownBlock ≠ some q.1) (hgl : v.ownBlock ≠ some gl)
    (hn : n ≤ 5000000) (hby : bytes ≤ 1000)
    (h : ∀ v' u, Own w u S L → QAt base e size u v' (n + 1) (xs ++ cs.toList) → Keeps W u v.ownBlock.toList → (v'.ownBlock = v.ownBlock ∨ v'.ownBlock = some W.heap.size) → wpList Try.prog ops Q rest (a.put o.dst v') u) : wpList Try.prog ops Q (o :: rest) a W := by
  obtain ⟨ht, ⟨i, hi, hz, hsz, hbt⟩, hzs, hpos⟩ := hT
  have hB := O.get 0 rfl
  have hl : cs.toList.length = 1 * size := by rw [Nat.one_mul, ← hcs]; simp
  have hnews : ∀ j u, cs.toList[j]? = some u → W.cell? ((⟨gl, 0, none⟩ : Addr).add j) = some u := gr_news hB
  have hbytes : (n + 1) * bytes ≤ 140737488355328 := Nat.le_trans (Nat.mul_le_mul (show n + 1 ≤ 5000001 by omega) hby) (by decide)
  have hM := M
  obtain ⟨hxl, g, off, cap, cur, rfl, hbg, hBg, hle, hcm, hfit, hat⟩ := M
  have fin : ∀ v' u, (Builtin.append_ #[T, T] o.type #[.slice (some ⟨g, off, none⟩) n cap, .slice (some ⟨gl, 0, none⟩) 1 1]).run Try.prog W = .ok v' u → QAt base e size u v' (n + 1) (xs ++ cs.toList) → Keeps W u [g] → (v'.ownBlock = some g ∨ v'.ownBlock = some W.heap.size) → wpList Try.prog ops Q (o :: rest) a W := by
    intro v' u hr h2 hk hf
    refine wpList_plain hgd fun K hK => ?_
    unfold Oper.wp execOp
    simp only [ho, resolve, invoke, builtin, Sem.run_bind, Sem.run_pure, Result.andThen_ok, List.map_toArray, List.map_cons, List.map_nil, hs, hy, hr]
    refine hK _ _ (h v' u ((O.drop_ 1).wrote hk (fun b hb' hlt => ?_) (fun q hq hm => hL q hq (by simp [Value.ownBlock, List.mem_singleton.1 hm]))) h2 hk hf)
    obtain rfl : b = g := by simpa using hb'
    omega
  by_cases hroom : n + 1 ≤ cap
  · have hm : (n + 1) * size ≤ cap * size := Nat.mul_le_mul_right _ hroom
    have hn1 : (n + 1) * size = n * size + size := Nat.succ_mul _ _
    have hcl : cs.toList.length = size := by simpa using hcs
    obtain ⟨cur', b1, b2, b3, b4⟩ := blk_setCells cs.toList (off + n * size) hBg (by omega)
    have hr := run_append_room_cells (P := Try.prog) W T o.type e i ht hi g off n cap ⟨gl, 0, none⟩ 1 1 cs.toList (by rw [hl, hsz]) hnews h1 hroom
      (fun j hj => by rw [hsz, hBg.cell, Array.getElem?_eq_getElem (by omega)]; rfl) (fun j hj => hBg.frozen _)
    rw [hsz] at hr
    refine fin _ _ hr ⟨by rw [List.length_append, hxl, hcl]; omega, g, off, cap, cur', rfl, hbg, b1, hroom, hcm, by omega, fun j hj => ?_⟩ b4 (.inl rfl)
    rw [b3]
    by_cases e1 : j < n * size
    · rw [if_neg (by omega), List.getElem?_append_left (by omega)]
      exact hat j e1
    · rw [if_pos ⟨by omega, by omega⟩, List.getElem?_append_right (by omega)]
      congr 1
      omega
  · have hold : ∀ j u, xs[j]? = some u → W.cell? ((⟨g, off, none⟩ : Addr).add j) = some u := fun j u hu => by
      have hj := (List.getElem?_eq_some_iff.1 hu).1
      rw [Addr.add_lit, hBg.cell, hat j (by omega)]
      exact hu
    obtain ⟨v', u, hr, h2, h3⟩ := run_append_arg_grows (P := Try.prog) W T o.type e i z size bytes ht hi hz hsz hbt hzs hpos ⟨g, off, none⟩ n cap xs hxl hold ⟨gl, 0, none⟩ 1 1 cs.toList hl hnews (by omega) (by simp only [maxLen]; omega) hbytes
    have hq := QAt.of_row (gr_low h2 hbW) (by omega)
    have hk0 : Keeps W u [g] := ⟨h3.os, h3.tape, h3.output, h3.size, fun k hk _ => h3.block k hk (by simp)⟩
    refine fin v' u hr hq hk0 (.inr ?_)
    obtain ⟨rfl, _⟩ | ⟨g', cap', cur', rfl, hb', hB', _⟩ := h2.2
    · simp at *
    · have hd := run_append_grow (P := Try.prog) W T o.type e i z ht hi hz ⟨g, off, none⟩ n cap xs (by rw [hxl, hsz]) hold ⟨gl, 0, none⟩ 1 1 cs.toList (by rw [hl, hsz]) hnews (by omega) (by omega) (growslice_fits (by omega) (by rw [hbt]; exact hbytes))
      rw [hr] at hd
      injection hd with hd _
      rw [hd]
      rfl
end
end Go.Proofs.Ytakmcpadkanggaa
namespace Go.Proofs.Ytakmcpadkanggaa
open Go.RowKit Go.Maps Go.Deep
section
variable {w : World} {S : Sys} {A : Option Addr} {c : Nat} {R : Option Addr} {d n : Nat} {E : Nat → Ev} {B : Option Addr} {cb : Nat}
set_option maxRecDepth 100000 in
theorem tedges_bad (hS : SysIn w S A c R d) (hE : EvsAt w B n E) (hwf : ∀ i, i < n → (Lit.int .i64 (E i).a).wf = true) (h : ¬ (thr S E n).2.2 = 0) : Calls Try.prog 37 #[.agg (sysV S A c R d), .slice B n cb] w (EdgPost (edgR S E (rmS S) n) w) := by
  have O := Own.start w []
  have HT : ∀ u, Keeps w u [] → Hid (Calls Try.prog 60 #[.agg (sysV S A c R d), .slice B n cb] u fun e w' => e = .returned (.tuple #[.int .i64 (thr S E n).1, .int .i64 (thr S E n).2.1, .int .i64 (thr S E n).2.2]) ∧ Keeps u w' []) := fun u k => Lib.hid (through_any (hS.kept k) (hE.kept k) hwf)
  have HF := Lib.hid (edgR_bad (rm := rmS S) h)
  clear hS hE hwf
  generalize hr : edgR S E (rmS S) n = r at HF ⊢
  clear hr
  generalize thr S E n = x at *
  obtain ⟨x0, x1, x2⟩ := x
  simp only at *
  go_enter Try.func37, Try.ntmps37
  go_wp2_with (first
    | go_big_skip
    | (refine own_box 2 (sysV S A c R d) O rfl rfl rfl rfl ?_; clear O; intro W a2 O; simp only [Act.put, List.setIfInBounds_toArray, List.set_cons_zero, List.set_cons_succ])
    | (refine own_load 16 0 O rfl rfl rfl rfl rfl Try.underlying27 rfl (by kernel_rfl) ?_; simp only [Act.put, List.setIfInBounds_toArray, List.set_cons_zero, List.set_cons_succ])
    | (go_at_call 60; refine ((HT _ O.keep).out).mono ?_; rintro e W ⟨rfl, K⟩; replace O := O.keeps K; clear K))
  go_returns
  exact ⟨⟨_, by rw [HF.out]; rfl, by rw [HF.out]; exact edgP_nil _ _⟩, O.keep⟩
/-- The block of a row is none of the links'. -/
def ApF (v : Value) (F : List Nat) (p : Nat) : Prop := ∀ g, v.ownBlock = some g → g ∉ F ∧ g ≠ p
set_option maxRecDepth 100000 in
set_option maxHeartbeats 4000000 in
theorem tedges_good (hS : SysIn w S A c R d) (hE : EvsAt w B n E) (hwf : ∀ i, i < n → (Lit.int .i64 (E i).a).wf = true) (h : (thr S E n).2.2 = 0) : Calls Try.prog 37 #[.agg (sysV S A c R d), .slice B n cb] w (EdgPost (edgR S E (rmS S) n) w) := by
  have O := Own.start w []
  obtain ⟨hv, hn, hok⟩ := thr_zero h
  have HT : ∀ u, Keeps w u [] → Hid (Calls Try.prog 60 #[.agg (sysV S A c R d), .slice B n cb] u fun e w' => e = .returned (.tuple #[.int .i64 (thr S E n).1, .int .i64 (thr S E n).2.1, .int .i64 0]) ∧ Keeps u w' []) := fun u k => Lib.hid (by have := through_any (cb := cb) (hS.kept k) (hE.kept k) hwf; unfold thrV at this; rwa [h] at this)
  have HNX := Lib.hid (fun u (K : Keeps w u []) (j : Nat) (hj : j < n) F f p mb base (hl : LinksAt u F (.slice R S.nr d) p mb f (lkN E j) (2 * j) base) (hb : w.heap.size ≤ base) => lnextE hS K (valid_rooms hv) (by omega) (hok j hj) (hwf j hj) hl (by omega) (fun i a => by have := lk_len E i a j; omega) (fun h6 hs => by rw [lk_r0, lk_r1, natL_length, natL_length]; exact ok_take (hok j hj) h6 hs) hb)
  have HLONG := Lib.hid (fun k (hk : k ≤ n) hl => edgR_long (rm := rmS S) (k := k) h hk hl)
  have HOKR := Lib.hid (fun hl => edgR_ok (rm := rmS S) h hl)
  have HLEN := Lib.hid (fun j (hj : j < n) => intoL_length (rm := rmS S) (hok j hj))
  have HE := Lib.hid hE
  have HWE := Lib.hid (fun j (hj : j < n) => ok_head (hok j hj))
  clear hS hE h hok hv hwf
  generalize hr : edgR S E (rmS S) n = r at HLONG HOKR ⊢
  clear hr
  generalize thr S E n = x at *
  obtain ⟨x0, x1, x2⟩ := x
  go_enter Try.func37, Try.ntmps37
  go_wp2_with (first
    | go_big_skip
    | (refine own_box 2 (sysV S A c R d) O rfl rfl rfl rfl ?_; clear O; intro W a2 O; simp only [Act.put, List.setIfInBounds_toArray, List.set_cons_zero, List.set_cons_succ])
    | (refine own_load 16 0 O rfl rfl rfl rfl rfl Try.underlying27 rfl (by kernel_rfl) ?_; simp only [Act.put, List.setIfInBounds_toArray, List.set_cons_zero, List.set_cons_succ])
    | (go_at_call 60; refine ((HT _ O.keep).out).mono ?_; rintro e W ⟨rfl, K⟩; replace O := O.keeps K; clear K)
    | (refine own_load 25 0 O rfl rfl rfl rfl rfl Try.underlying27 rfl (by kernel_rfl) ?_; simp only [Act.put, List.setIfInBounds_toArray, List.set_cons_zero, List.set_cons_succ])
    | (go_at_call 69; refine newLinks_any.mono ?_; rintro e W' ⟨⟨p, F, mb, f, rfl, LA, hp⟩, K⟩; have hws := O.keep.size; have ha2 := O.lt 0 rfl; replace O := O.keeps K; clear K; have HP := Lib.hid (And.intro hp (And.intro hws ha2)); clear hp hws ha2))
  clear HT
  obtain ⟨base, hbase⟩ : ∃ b, b = W.heap.size := ⟨_, rfl⟩
  rw [← hbase] at LA HP
  clear hbase
  go_loopg [9, 29] n (fun g s9 s29 wr => ∃ k F f, k ≤ n ∧ g = n - k ∧ s29 = .int .i64 (k : Int) ∧ Own w wr [] [(a2, 27, sysV S A c R d)] ∧ MintP 67 w.heap.size wr s9 (edgN E (rmS S) k) ∧ (edgN E (rmS S) k).length ≤ 65536 ∧ LinksAt wr F (.slice R S.nr d) p mb f (lkN E k) (2 * k) base ∧ ApF s9 F p)
  case atStart => exact ⟨0, F, f, by omega, by omega, rfl, O, edgP_nil _ _, by simp [edgN], LA, fun g hg => by cases hg⟩
  case round =>
    obtain ⟨k, F, f, hk, hgk, rfl, O, M, hl, LA, AP⟩ := hrel
    have HG := Lib.hid (And.intro hgk hl)
    clear hgk hl
    by_cases hlt : k < n
    · have g1 : ((k : Int)) < n := by omega
      have g0 : (0 : Int) ≤ k := by omega
      have HXL := Lib.hid (HLEN.out k hlt)
      have HJA := Lib.hid (jn_all E (rmS S) k)
      have HEN := Lib.hid (show edgN E (rmS S) (k + 1) = edgN E (rmS S) k ++ edgJ E (rmS S) k from rfl)
      obtain ⟨ad, rfl, hc⟩ := EvsAt.row (u := w) HE.out hlt
      have HC := Lib.hid hc
      have HNk := Lib.hid (fun u (K : Keeps w u []) F f (hl : LinksAt u F (.slice R S.nr d) p mb f (lkN E k) (2 * k) base) => HNX.out u K k hlt F f p mb base hl HP.out.2.1)
      clear hc
      obtain ⟨xs, hxs⟩ : ∃ xs, xs = scL (nextR (lkN E k) (rmS S) (E k)) := ⟨_, rfl⟩
      have hxs2 : xs = intoL E (rmS S) k := hxs
      rw [← hxs2] at HXL HJA
      have HXS := Lib.hid hxs
      have HLK := Lib.hid (show nextK (lkN E k) (k : Int) (E k) = lkN E (k + 1) from rfl)
      obtain ⟨m, hm⟩ : ∃ m, m = xs.length := ⟨_, rfl⟩
      have hm6 : m ≤ 1000000 := by have := HXL.out; omega
      have HM := Lib.hid hm
      obtain ⟨es, hes⟩ : ∃ es, es = edgN E (rmS S) k := ⟨_, rfl⟩
      rw [← hes] at M HG HEN
      clear hxs hxs2 hm hes
      generalize E k = e at HC HNk HXS HLK
      go_wp2_with (first
        | (refine wpList_load_at 33 rfl rfl rfl rfl (HC.out [] _ O.keep (by simp)) Try.underlying37 rfl (by kernel_rfl) ?_; simp only [Act.put, List.setIfInBounds_toArray, List.set_cons_zero, List.set_cons_succ])
        | (refine own_allocK 12 (evC ⟨0, 0, 0, 0, false⟩) O rfl rfl rfl (fun _ => by kernel_rfl) ?_; clear O; intro W1 b12 O K1 hb; have hb12 : b12 ∉ F ∧ b12 ≠ p := ⟨(fun hm => by have := (LA.ltF _ hm).2; omega), (fun e => by have := LA.blk.lt; omega)⟩; replace M := gr_keeps M K1 (by simp); replace LA := LA.kept K1 (by simp); have HB12 := Lib.hid hb12; clear K1 hb hb12; simp only [Act.put, List.setIfInBounds_toArray, List.set_cons_zero, List.set_cons_succ])
        | (have hne := gr_ne M (O.get 0 rfl) (by decide); refine own_store_rowK 0 (.tmp 12) (.tmp 33) O rfl rfl rfl rfl rfl rfl (by kernel_rfl) (by rfl) (evC_cell _) ?_; clear O; intro W2 O K2; simp only [List.set_cons_zero] at O; replace M := gr_keeps M K2 (fun g hg hm => hne (by rw [hg]; congr 1; exact List.mem_singleton.1 hm)); replace LA := LA.kept K2 (fun b hb => by rw [List.mem_singleton.1 hb]; exact HB12.out); clear K2 hne)
        | (refine own_load 36 0 O rfl rfl rfl rfl rfl Try.underlying37 rfl (by kernel_rfl) ?_; simp only [Act.put, List.setIfInBounds_toArray, List.set_cons_zero, List.set_cons_succ])
        | (go_at_call 70; refine (HNk.out _ O.keep F f LA).mono ?_; rintro x W3 ⟨rr, F', f', rfl, hR, LA', hnew, hrF, K3⟩; have AP' : ApF _ F' p := (fun g hg => ⟨notF hnew (AP g hg).1 (gr_own M hg).2.1, (AP g hg).2⟩); replace O := O.wrote K3 (fun b hb hlt => absurd hlt (by have := (LA.ltF b hb).1; have := HP.out.2.1; omega)) (fun q hq => by
            rcases List.mem_cons.1 hq with rfl | hq
            · exact HB12.out.1
            · rw [List.mem_singleton.1 hq]; exact fun hm => by have := (LA.ltF _ hm).1; have := HP.out.2.2; omega); replace M := gr_keeps M K3 (fun g hg hm => (AP g hg).1 hm); rw [← HXS.out] at hR; rw [HLK.out] at LA'; obtain ⟨Av, cv, hvv, _⟩ := hR.listL.1; rw [← HM.out] at hvv; subst hvv; clear LA AP hnew hrF K3))
      generalize hbh : W2.heap.size = bh at hR
      clear hbh
      go_loopg [9, 39] m (fun g s9 s39 wr => ∃ q, q ≤ m ∧ g = m - q ∧ s39 = .int .i64 (q : Int) ∧ Own w wr [] [(b12, 37, evC e), (a2, 27, sysV S A c R d)] ∧ HRow bh wr (.slice Av m cv) xs ∧ MintP 67 w.heap.size wr s9 (es ++ jn xs k q) ∧ LinksAt wr F' (.slice R S.nr d) p mb f' (lkN E (k + 1)) (2 * k + 2) base ∧ ApF s9 F' p)
      case atStart => exact ⟨0, by omega, by omega, rfl, O, hR, by show MintP 67 _ _ _ (es ++ []); rw [List.append_nil]; exact M, LA', AP'⟩
      case round =>
        obtain ⟨q, hq, hgq, rfl, O, hR, M, LA, AP⟩ := hrel
        have HG2 := Lib.hid hgq
        clear hgq
        by_cases hqt : q < m
        · have g2 : ((q : Int)) < m := by omega
          have g3 : (0 : Int) ≤ q := by omega
          have HQ := Lib.hid (show q < xs.length by rw [← HM.out]; exact hqt)
          obtain ⟨A', c', e', hx⟩ := hR.listL.1
          obtain ⟨ad', e1, _, hc⟩ := hx (by have := HQ.out; omega)
          have e2 : Av = some ad' := by rw [← e1]; injection e'
          subst e2
          clear e1 e'
          have cq := hc q HQ.out
          have HJ := Lib.hid (jn_succ xs k q HQ.out)
          have HCL := Lib.hid (show (es ++ jn xs k q).length ≤ 5000000 by
            have h1 := HG.out.2; have h2 := HXL.out; have h3 := HM.out
            have h4 : (jn xs k q).length ≤ q := by unfold jn; rw [List.length_map]; exact List.length_take_le _ _
            rw [List.length_append]; omega)
          clear hx hc
          generalize xs.getD q 0 = y at cq HJ
          go_wp2_with (first
            | (refine own_lit2 47 61 67 (y, (k : Int)) O rfl rfl rfl rfl Try.underlying61 (by kernel_rfl) ?_; clear O; intro W gl O K1 hg; replace M := gr_keeps M K1 (by simp); replace hR := hR.keeps K1 (by simp); replace LA := LA.kept K1 (by simp); clear K1 hg; simp only [Act.put, List.setIfInBounds_toArray, List.set_cons_zero, List.set_cons_succ])
            | (at_builtin; refine gr_app (.tmp 43) (.tmp 47) rowT61 O M rfl (prC_cell _) rfl rfl rfl rfl (Nat.le_refl _) O.keep.size (fun q hq => ?_) HCL.out (by decide) ?_; (· (rcases List.mem_cons.1 hq with hq | hq; (· (subst hq; exact gr_ne M (O.get 1 rfl) (by decide))); (· (have hq2 := List.mem_singleton.1 hq; subst hq2; exact gr_ne M (O.get 2 rfl) (by decide))))); intro v1 W O2 M2 K hf; replace hR := hR.keeps K (fun g hg hm => by obtain ⟨_, cur, hb⟩ := hR.own hg; exact gr_ne M hb (by decide) (by simpa using hm)); have AP2 : ApF v1 F' p := (fun g hg => by
                rcases hf with hf | hf
                · exact AP g (by rw [← hf]; exact hg)
                · rw [hf] at hg; cases hg; exact ⟨fun hm => by have := (LA.ltF _ hm).2; omega, fun e => by have := LA.blk.lt; omega⟩); replace LA := LA.kept K (fun b hb => AP b (by simpa using hb)); clear O M K hf AP; have O := O2; have M := M2; have AP := AP2; clear O2 M2 AP2; simp only [Act.put, List.setIfInBounds_toArray, List.set_cons_zero, List.set_cons_succ]))
          clear cq
          go_roundg (m - (q + 1))
          case measure => (have := HG2.out; omega)
          case rel => exact ⟨q + 1, by omega, rfl, by go_num, O, hR, by show MintP 67 _ _ _ _; unfold MintP; rw [HJ.out, ← List.append_assoc, prL_snoc, List.length_append]; exact M, LA, AP⟩
        · obtain rfl : m = q := by omega
          have HE2 := Lib.hid (show es ++ jn xs k m = edgN E (rmS S) (k + 1) by rw [HEN.out, ← HJA.out, ← HM.out])
          clear hqt
          rw [HE2.out] at M
          by_cases hl : 65536 < (edgN E (rmS S) (k + 1)).length
          · have HF := Lib.hid (HLONG.out (k + 1) (by omega) hl)
            obtain ⟨Ae, ce, e', _⟩ := gr_shape M
            subst e'
            have q1 : decide (65536 < (edgN E (rmS S) (k + 1)).length) = true := decide_eq_true hl
            have q2 : (65536 : Int) < ((edgN E (rmS S) (k + 1)).length : Int) := by omega
            go_wp2
            go_returns
            exact ⟨⟨_, by rw [HF.out]; rfl, by rw [HF.out]; exact edgP_nil _ _⟩, O.keep⟩
          · have HL := Lib.hid (show (edgN E (rmS S) (k + 1)).length ≤ 65536 by omega)
            obtain ⟨Ae, ce, e', _⟩ := gr_shape M
            subst e'
            have q1 : decide (65536 < (edgN E (rmS S) (k + 1)).length) = false := decide_eq_false hl
            have q2 : ¬ (65536 : Int) < ((edgN E (rmS S) (k + 1)).length : Int) := by omega
            clear hl
            go_wp2
            clear q1 q2
            go_roundg (n - (k + 1))
            case measure => (have := HG.out; omega)
            case rel => exact ⟨k + 1, F', f', by omega, rfl, by go_num, O.drop_ 1, M, HL.out, LA, AP⟩
    · obtain rfl : n = k := by omega
      have HF := Lib.hid (HOKR.out HG.out.2)
      clear hlt
      go_wp2
      go_returns
      exact ⟨⟨_, by rw [HF.out]; rfl, by rw [HF.out]; exact M⟩, O.keep⟩
theorem tedges_any (hS : SysIn w S A c R d) (hE : EvsAt w B n E) (hwf : ∀ i, i < n → (Lit.int .i64 (E i).a).wf = true) : Calls Try.prog 37 #[.agg (sysV S A c R d), .slice B n cb] w (EdgPost (edgR S E (rmS S) n) w) := by
  by_cases h : (thr S E n).2.2 = 0
  · exact tedges_good hS hE hwf h
  · exact tedges_bad hS hE hwf h
end
end Go.Proofs.Ytakmcpadkanggaa
namespace Go.Proofs.Ytakmcpadkanggaa
open Go.RowKit Go.Maps Go.Deep
section
variable {w W W' : World} {L : List Ent}
theorem updN_same {α : Type} (f : Nat → α) (i : Nat) (x : α) : updN f i x i = x := by simp [updN]
theorem updN_other {α : Type} (f : Nat → α) (i j : Nat) (x : α) (h : j ≠ i) : updN f i x j = f j := by simp [updN, h]
end
end Go.Proofs.Ytakmcpadkanggaa
namespace Go.Proofs.Ytakmcpadkanggaa
open Go.RowKit Go.Maps Go.Deep
theorem rowT25w : RowT 25 3 1 8 (.int .i64 0) := by
  have h : (Try.prog.info? 3).map (fun i => (i.zero, i.size, i.bytes)) = some (some (.int .i64 0), 1, 8) := by kernel_rfl
  obtain ⟨i, hi, he⟩ := Option.map_eq_some_iff.1 h
  simp only [Prod.mk.injEq] at he
  exact ⟨Try.underlying25, ⟨i, hi, he.1, he.2.1, he.2.2⟩, rfl, by decide⟩
theorem rowT138 : RowT 138 137 2 16 (.agg #[.int .i64 0, .int .i64 0]) := by
  have h : (Try.prog.info? 137).map (fun i => (i.zero, i.size, i.bytes)) = some (some (.agg #[.int .i64 0, .int .i64 0]), 2, 16) := by kernel_rfl
  obtain ⟨i, hi, he⟩ := Option.map_eq_some_iff.1 h
  simp only [Prod.mk.injEq] at he
  exact ⟨Try.underlying138, ⟨i, hi, he.1, he.2.1, he.2.2⟩, rfl, by decide⟩
section
variable {ops : Array Oper} {rest : List Oper} {o : Oper} {a : Act} {w W : World} {Q : Exit → Act → World → Prop} {T e b n : Nat} {f : Int → Option Value} {x y z : Operand} {k : Int} {v : Value}
/-- A map's first entry, of a literal. -/
theorem map_insertV (M : MapV W b n f) (T e : TypeId) (ht : Try.prog.underlying T = some (.map 3 e)) (hg : o.guard = none) (ho : o.op = .insert T x y z) (hx : a.eval x = .map (some b)) (hy : a.eval y = .int .i64 k) (hk : (Lit.int .i64 k).wf = true)
    (hz : a.eval z = v) (hn : n < maxLen)
    (hK : ∀ u, Keeps W u [b] → MapV u b (n + 1) (updI f k (some v)) → wpList Try.prog ops Q rest (a.put o.dst undef) u) : wpList Try.prog ops Q (o :: rest) a W := by
  obtain ⟨D, h1, h2⟩ := M
  refine wpList_plain hg fun K' hK' => ?_
  obtain ⟨u, hrun, m, g⟩ := h1.update key3 ht hn (keyOf_int_mk Try.underlying3 hk) (show rawElem v = some (.held v, []) from rfl)
  unfold Oper.wp
  simp [execOp, ho, hx, hy, hz, hrun, Result.andThen]
  refine hK' _ _ (hK u (keeps_of_grown g) ⟨_, m, fun j => ?_⟩)
  by_cases hj : j = k
  · subst hj
    rw [updI_same, Maps.has_put_same (k := .int .i64 j) h1.isMap True.intro]
    exact ⟨rfl, fun v' hv z => by rw [Maps.atKey_put_same (k := .int .i64 j) h1.isMap True.intro, Option.some.inj hv]⟩
  · rw [updI_other _ _ _ _ hj, Maps.has_put_other (fun e => hj (by injection e))]
    exact ⟨(h2 j).1, fun v' hv z => by rw [Maps.atKey_put_other (fun e => hj (by injection e)), (h2 j).2 v' hv]⟩
end
def arrF (n : Nat) (vs : Nat → Value) : Array Value := ((List.range n).map vs).toArray
theorem arrF_size (n : Nat) (vs : Nat → Value) : (arrF n vs).size = n := by simp [arrF]
theorem arrF_get (n : Nat) (vs : Nat → Value) {i : Nat} (h : i < n) : (arrF n vs)[i]? = some (vs i) := by simp [arrF, h]
theorem arrF_set (n : Nat) (vs : Nat → Value) (k : Nat) (v : Value) : (arrF n vs).setIfInBounds k v = arrF n (updN vs k v) := by
  apply Array.ext_getElem?
  intro i
  rw [Array.getElem?_setIfInBounds, arrF_size]
  by_cases hi : i < n
  · rw [arrF_get _ _ hi, arrF_get _ _ hi]
    by_cases e : k = i
    · subst e; rw [if_pos rfl, if_pos hi, updN_same]
    · rw [if_neg e, updN_other _ _ _ _ (fun q => e q.symm)]
  · by_cases e : k = i
    · subst e; rw [if_pos rfl, if_neg hi]; simp [arrF, hi]
    · rw [if_neg e]; simp [arrF, hi]
theorem arrF_nil (n : Nat) : rowsZ n (fun _ => 0) 0 = arrF n fun _ => .slice none 0 0 := by
  apply Array.ext_getElem?
  intro i
  by_cases hi : i < n
  · rw [arrF_get _ _ hi]; simp [rowsZ, hi]
  · simp [rowsZ, arrF, hi]
theorem hrow_low {W : World} {r : Value} {b b' : Nat} {xs : List Int} (h : HRow b' W r xs) (hb : b ≤ b') : HRow b W r xs := by
  rcases h with hn | ⟨g, off, cap, cur, h1, h2, h3⟩
  · exact .inl hn
  · exact .inr ⟨g, off, cap, cur, h1, Nat.le_trans hb h2, h3⟩
/-- From an address on lie m rows: the events from which edges lead. -/
def FromAt (base : Nat) (W : World) (ad : Addr) (m : Nat) (I : Nat → List Int) : Prop := ∀ k, k < m → ∃ v, W.cell? (ad.add k) = some v ∧ HRow base W v (I k)
theorem FromAt.kept {base : Nat} {W u : World} {ad : Addr} {m : Nat} {I : Nat → List Int} (h : FromAt base W ad m I) (K : Keeps W u []) : FromAt base u ad m I := fun k hk => by
  obtain ⟨v, h1, h2⟩ := h k hk
  exact ⟨v, by rw [K.cellAt (World.block_lt_of_cell? W _ h1) (by simp)]; exact h1, h2.keeps K (by simp)⟩
theorem FromAt.look {base : Nat} {W : World} {ad : Addr} {m : Nat} {I : Nat → List Int} (h : FromAt base W ad m I) {k : Nat} (hk : k < m) : ∃ v, ∀ u, Keeps W u [] → u.cell? (ad.add k) = some v ∧ HRow base u v (I k) := by
  obtain ⟨v, h1, h2⟩ := h k hk
  exact ⟨v, fun u K => ⟨by rw [K.cellAt (World.block_lt_of_cell? W _ h1) (by simp)]; exact h1, h2.keeps K (by simp)⟩⟩
/-- A row as the walks want it. -/
theorem HRow.row {base : Nat} {W : World} {v : Value} {xs : List Int} (h : HRow base W v xs) : ∃ A c, v = .slice A xs.length c ∧ ∀ q, q < xs.length → ∃ ad, A = some ad ∧ W.cell? (ad.add q) = some (.int .i64 (xs.getD q 0)) := h.shape
/-- Is x in the row? -/
theorem contains_any {base : Nat} {W : World} {v : Value} {xs : List Int} (h : HRow base W v xs) (hl : xs.length ≤ 1000000) (x : Int) : Calls Try.prog 81 #[v, .int .i64 x] W fun e u => e = .returned (.bool (decide (x ∈ xs))) ∧ u = W := by
  rcases h with ⟨rfl, rfl⟩ | ⟨g, off, cap, cur, rfl, hb, hB, _, _, _, hc⟩
  · exact (Try.slices_Contains_int_empty none 0 x W).mono fun e u h => h
  · refine (Try.slices_Contains_int g off xs.length cap xs x W (Nat.le_refl _) (by omega) (fun j hj => by rw [hB.cell]; exact hc j hj)).mono ?_
    rintro e u ⟨rfl, rfl⟩
    rw [List.take_length, List.contains_eq_mem]
    exact ⟨rfl, rfl⟩
noncomputable def farF (I : Nat → List Int) (j : Nat) (L : List Nat) (k : Int) : Option Value := if 0 ≤ k ∧ k.toNat ∈ L then some (.int .i64 (dsI I j k.toNat)) else none
section
variable {I : Nat → List Int} {j y : Nat} {L : List Nat}
theorem farF_in (h : y ∈ L) : farF I j L (y : Int) = some (.int .i64 (dsI I j y)) := if_pos ⟨by omega, h⟩
theorem farF_out (h : y ∉ L) : farF I j L (y : Int) = none := if_neg fun q => h q.2
theorem farF_start : updI (fun _ => none) (j : Int) (some (.int .i64 0)) = farF I j [j] := by
  funext k
  by_cases e : k = (j : Int)
  · subst e
    rw [updI_same, farF_in (by simp), dsI_of ds_self]
    rfl
  · rw [updI_other _ _ _ _ e]
    unfold farF
    rw [if_neg fun q => e (by have := List.mem_singleton.1 q.2; omega)]
theorem farF_push : updI (farF I j L) (y : Int) (some (.int .i64 (dsI I j y))) = farF I j (L ++ [y]) := by
  funext k
  by_cases e : k = (y : Int)
  · subst e
    rw [updI_same, farF_in (by simp)]
  · rw [updI_other _ _ _ _ e]
    unfold farF
    by_cases h : 0 ≤ k ∧ k.toNat ∈ L
    · rw [if_pos h, if_pos ⟨h.1, by simp [h.2]⟩]
    · rw [if_neg h, if_neg fun q => h ⟨q.1, by
        rcases List.mem_append.1 q.2 with h' | h'
        · exact h'
        · exact absurd (show k = (y : Int) by have := List.mem_singleton.1 h'; omega) e⟩]
/-- The queue's elements. -/
noncomputable def stpL (I : Nat → List Int) (j : Nat) (L : List Nat) : List Value := prL (L.map fun m : Nat => ((m : Int), dsI I j m))
theorem stpL_cons (x : Nat) (L : List Nat) : stpL I j (x :: L) = .int .i64 (x : Int) :: .int .i64 (dsI I j x) :: stpL I j L := rfl
theorem stpL_snoc : stpL I j (L ++ [y]) = stpL I j L ++ (prC ((y : Int), dsI I j y)).toList := by unfold stpL; rw [List.map_append, List.map_cons, List.map_nil, prL_snoc]
end
end Go.Proofs.Ytakmcpadkanggaa

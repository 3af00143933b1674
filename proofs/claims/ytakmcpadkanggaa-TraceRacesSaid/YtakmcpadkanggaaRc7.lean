/-
  Part 7 of what this claim rests on.
-/
import Derived.Deep.DeepCutAuto
import Derived.Deep.CutBlock
import Derived.Test.YtakmcpadkanggaaRc6
namespace Go.Proofs.Ytakmcpadkanggaa
open Go.RowKit Go.Maps Go.Deep
section
variable {S : Sys} {E : Nat → Ev} {rm : Int → Int} {r j wn : Nat}
/-- Of each runner below r. -/
def nowN (E : Nat → Ev) (rm : Int → Int) (j : Nat) (i : Nat) : Int → Int := nowC E rm j (i : Int)
theorem note_now (h : OkAll S E (j + 1)) (hw : (E j).who = (wn : Int)) {nc : Nat → Int → Int} (hn : ∀ i, i ≠ wn → i < r → ∀ c : Nat, c < r → nc i c = nowN E rm j i c) (hs : ∀ c : Nat, c < r → nc wn c = clk E rm j c) : ∀ i, i < r → ∀ c : Nat, c < r → noteN r nc (clk E rm j) (E j) i c = nowN E rm (j + 1) i c := by
  intro i hi c hc
  have hj := h j (by omega)
  have hA : OkAll S E j := fun k hk => h k (by omega)
  have hwr := (ok_head hj).2.1
  have self : nowN E rm (j + 1) wn c = clk E rm j c := by
    unfold nowN
    rw [← hw, now_self]
  unfold noteN
  by_cases h14 : (E j).op = 14 ∧ 0 < (E j).v
  · rw [if_pos h14]
    have hv : (E j).v = (stN E j).r := by
      rcases ok_start hj h14.1 with e | e
      · omega
      · exact e.1
    by_cases e : i = (E j).v.toNat
    · have hiv : ((i : Nat) : Int) = (E j).v := by omega
      unfold updN
      rw [if_pos e, ← e]
      have hne : i ≠ wn := by omega
      have hz : ∀ q : Nat, q < r → nc i q = 0 := fun q hq => by
        rw [hn i hne hi q hq]
        unfold nowN
        rw [now_fresh hA (show (stN E j).r ≤ ((i : Nat) : Int) by omega)]
      have hb : nowN E rm (j + 1) i c = clk E rm j c := by
        unfold nowN
        rw [now_born hA (i := (i : Int)) (by omega) h14.1 h14.2 (by omega) (by omega)]
      rw [hb]
      unfold jmax
      rw [if_pos (by omega), Int.toNat_natCast, rowOf_get _ _ _ hc, hz c hc]
      have := clk_nonneg (E := E) (rm := rm) j c
      omega
    · unfold updN
      rw [if_neg e]
      by_cases e2 : i = wn
      · rw [e2, self, hs c hc]
      · rw [hn i e2 hi c hc]
        unfold nowN
        rw [now_other (by omega) (fun q => e (by have := q.2.2; omega))]
  · rw [if_neg h14]
    by_cases e2 : i = wn
    · rw [e2, self, hs c hc]
    · rw [hn i e2 hi c hc]
      unfold nowN
      rw [now_other (by omega) (fun q => h14 ⟨q.1, q.2.1⟩)]
theorem note_kc : ∀ i, i < 3 → noteK r (tkC E rm r j) (clk E rm j) (j : Int) (E j) i = tkC E rm r (j + 1) i := by
  have kb := keptB_nat (E := E) j
  intro i hi
  unfold noteK joinR
  by_cases h5 : (E j).op = 5 ∨ (E j).op = 6 ∨ (E j).op = 7
  · rw [if_pos h5]
    have hk : keptB E j = true := by rw [kb]; rcases h5 with h | h | h <;> simp [h]
    match i, hi with
    | 0, _ => rw [tk_keep hk]; rfl
    | 1, _ => rw [tk_add_not (by omega)]; rfl
    | 2, _ => rw [tk_free_not (by omega) (by omega)]; rfl
  · rw [if_neg h5]
    have hk : keptB E j = false := by
      rw [kb]
      simp only [Bool.or_eq_false_iff, beq_eq_false_iff_ne, ne_eq]
      omega
    by_cases h10 : (E j).op = 10
    · rw [if_pos h10]
      match i, hi with
      | 0, _ => rw [tk_keep_not hk]; rfl
      | 1, _ => rw [tk_add h10]; rfl
      | 2, _ => rw [tk_free_not (by omega) (by omega)]; rfl
    · rw [if_neg h10]
      by_cases h9 : (E j).op = 9
      · rw [if_pos h9]
        match i, hi with
        | 0, _ => rw [tk_keep_not hk]; rfl
        | 1, _ => rw [tk_add_not (by omega)]; rfl
        | 2, _ => rw [tk_free h9]; rfl
      · rw [if_neg h9]
        by_cases h8 : (E j).op = 8
        · rw [if_pos h8]
          match i, hi with
          | 0, _ => rw [tk_keep_not hk]; rfl
          | 1, _ => rw [tk_add_not (by omega)]; rfl
          | 2, _ => rw [tk_lock h8]; rfl
        · rw [if_neg h8]
          match i, hi with
          | 0, _ => rw [tk_keep_not hk]
          | 1, _ => rw [tk_add_not h10]
          | 2, _ => rw [tk_free_not h8 h9]
end
structure TS (w0 W : World) (L : List Ent) (Iv : World → List Nat → Prop) (base r gN : Nat) (nb mt : Nat → Nat) (X D F : List Nat) (nc : Nat → Int → Int) (kc : Nat → Int → List Int) (m : Nat) (rooms : Value) (p : Nat) (mb : Nat → Nat) (lk : Lk) (mL base2 : Nat) : Prop where
  own : Own w0 W [] L
  tk : ∃ f, TkAt W base r gN nb mt f X nc kc m
  la : ∃ fL, LinksAt W F rooms p mb fL lk mL base2
  iv : Iv W D
  bs : w0.heap.size ≤ base ∧ w0.heap.size ≤ base2
  dD : ∀ b ∈ D, w0.heap.size ≤ b ∧ b < W.heap.size
  dX : ∀ b ∈ D, b ∉ X
  dF : ∀ b ∈ D, b ∉ F ∧ b ≠ p
  xF : ∀ b ∈ X, b ∉ F ∧ b ≠ p
  lX : ∀ q ∈ L, q.1 ∉ X ∧ q.1 ∉ D ∧ q.1 ∉ F ∧ q.1 ≠ p
  hp : w0.heap.size ≤ p
/-- What the client has does not hang on other blocks than its own. -/
def IvOk (w0 : World) (Iv : World → List Nat → Prop) : Prop := ∀ W u D S, Iv W D → Keeps W u S → (∀ b ∈ S, b ∉ D ∧ w0.heap.size ≤ b) → Iv u D
section
variable {w0 W u : World} {L : List Ent} {Iv : World → List Nat → Prop} {base r gN : Nat} {nb mt : Nat → Nat} {X D F S F' X' D' : List Nat} {nc nc' : Nat → Int → Int} {kc kc' : Nat → Int → List Int} {m m' : Nat} {rooms : Value} {p : Nat} {mb : Nat → Nat} {lk lk' : Lk} {mL mL' base2 : Nat}
theorem TS.ltX (h : TS w0 W L Iv base r gN nb mt X D F nc kc m rooms p mb lk mL base2) : ∀ b ∈ X, base ≤ b ∧ b < W.heap.size := by obtain ⟨f, ht⟩ := h.tk; exact ht.ltX
theorem TS.ltF (h : TS w0 W L Iv base r gN nb mt X D F nc kc m rooms p mb lk mL base2) : ∀ b ∈ F, base2 ≤ b ∧ b < W.heap.size := by obtain ⟨f, ht⟩ := h.la; exact ht.ltF
theorem TS.ltp (h : TS w0 W L Iv base r gN nb mt X D F nc kc m rooms p mb lk mL base2) : p < W.heap.size := by obtain ⟨f, ht⟩ := h.la; exact ht.blk.lt
theorem TS.fresh (h : TS w0 W L Iv base r gN nb mt X D F nc kc m rooms p mb lk mL base2) (hI : IvOk w0 Iv) (K : Keeps W u []) : TS w0 u L Iv base r gN nb mt X D F nc kc m rooms p mb lk mL base2 := by
  obtain ⟨f, ht⟩ := h.tk
  obtain ⟨fL, hl⟩ := h.la
  exact ⟨h.own.keeps K, ⟨f, ht.keptS K (by simp)⟩, ⟨fL, hl.kept K (by simp)⟩, hI _ _ _ _ h.iv K (by simp), h.bs, fun b hb => ⟨(h.dD b hb).1, Nat.lt_of_lt_of_le (h.dD b hb).2 K.size⟩, h.dX, h.dF, h.xF, h.lX, h.hp⟩
/-- A new block of the call's own. -/
theorem TS.add (h : TS w0 W L Iv base r gN nb mt X D F nc kc m rooms p mb lk mL base2) (hI : IvOk w0 Iv) (K : Keeps W u []) {q : Ent} (O : Own w0 u [] (q :: L)) (hq : W.heap.size ≤ q.1) : TS w0 u (q :: L) Iv base r gN nb mt X D F nc kc m rooms p mb lk mL base2 := by
  have h1 := h.fresh hI K
  refine ⟨O, h1.tk, h1.la, h1.iv, h1.bs, h1.dD, h1.dX, h1.dF, h1.xF, fun x hx => ?_, h1.hp⟩
  rcases List.mem_cons.1 hx with rfl | hx
  · refine ⟨fun hm => ?_, fun hm => ?_, fun hm => ?_, fun e => ?_⟩
    · have := (h.ltX _ hm).2; omega
    · have := (h.dD _ hm).2; omega
    · have := (h.ltF _ hm).2; omega
    · have := h.ltp; omega
  · exact h1.lX x hx
theorem TS.drop_ (h : TS w0 W L Iv base r gN nb mt X D F nc kc m rooms p mb lk mL base2) (n : Nat) : TS w0 W (L.drop n) Iv base r gN nb mt X D F nc kc m rooms p mb lk mL base2 :=
  ⟨h.own.drop_ n, h.tk, h.la, h.iv, h.bs, h.dD, h.dX, h.dF, h.xF, fun q hq => h.lX q (List.mem_of_mem_drop hq), h.hp⟩
/-- A block of the call's own is written. -/
theorem TS.wrote (h : TS w0 W L Iv base r gN nb mt X D F nc kc m rooms p mb lk mL base2) (hI : IvOk w0 Iv) {g : Nat} (K : Keeps W u [g]) {L' : List Ent} (O : Own w0 u [] L') (hg : ∃ q ∈ L, q.1 = g) (hL : L'.map (·.1) = L.map (·.1)) : TS w0 u L' Iv base r gN nb mt X D F nc kc m rooms p mb lk mL base2 := by
  obtain ⟨f, ht⟩ := h.tk
  obtain ⟨fL, hl⟩ := h.la
  obtain ⟨q0, hq0, rfl⟩ := hg
  obtain ⟨a1, a2, a3, a4⟩ := h.lX q0 hq0
  refine ⟨O, ⟨f, ht.keptS K fun b hb => by rw [List.mem_singleton.1 hb]; exact a1⟩, ⟨fL, hl.kept K fun b hb => by rw [List.mem_singleton.1 hb]; exact ⟨a3, a4⟩⟩, hI _ _ _ _ h.iv K (fun b hb => by rw [List.mem_singleton.1 hb]; exact ⟨a2, by rcases Nat.lt_or_ge q0.1 w0.heap.size with hl | hl; (· exact absurd (h.own.new q0 hq0 hl) (by simp)); (· exact hl)⟩), h.bs, fun b hb => ⟨(h.dD b hb).1, Nat.lt_of_lt_of_le (h.dD b hb).2 K.size⟩, h.dX, h.dF, h.xF, fun x hx => ?_, h.hp⟩
  have hm : x.1 ∈ L.map (·.1) := by rw [← hL]; exact List.mem_map.2 ⟨x, hx, rfl⟩
  obtain ⟨y, hy, e⟩ := List.mem_map.1 hm
  rw [← e]
  exact h.lX y hy
/-- The runners' clocks or the kept rows are others: blocks of X alone were written. -/
theorem TS.tick (h : TS w0 W L Iv base r gN nb mt X D F nc kc m rooms p mb lk mL base2) (hI : IvOk w0 Iv) (K : Keeps W u X) {f : Nat → Int → Option Value} (T : TkAt u base r gN nb mt f X' nc' kc' m') (hX : ∀ b ∈ X', b ∈ X ∨ W.heap.size ≤ b) : TS w0 u L Iv base r gN nb mt X' D F nc' kc' m' rooms p mb lk mL base2 := by
  obtain ⟨fL, hl⟩ := h.la
  have hlt : ∀ b ∈ X, b < w0.heap.size → False := fun b hb hlt => by
    have := (h.ltX b hb).1
    have := h.bs.1
    omega
  refine ⟨h.own.wrote K (fun b hb hb' => (hlt b hb hb').elim) (fun q hq => (h.lX q hq).1), ⟨f, T⟩, ⟨fL, hl.kept K fun b hb => h.xF b hb⟩, hI _ _ _ _ h.iv K (fun b hb => ⟨fun hm => h.dX b hm hb, by have := (h.ltX b hb).1; have := h.bs.1; omega⟩), h.bs, fun b hb => ⟨(h.dD b hb).1, Nat.lt_of_lt_of_le (h.dD b hb).2 K.size⟩, fun b hb hm => ?_, h.dF, fun b hb => ?_, fun q hq => ?_, h.hp⟩
  · rcases hX b hm with h1 | h1
    · exact h.dX b hb h1
    · have := (h.dD b hb).2; omega
  · rcases hX b hb with h1 | h1
    · exact h.xF b h1
    · refine ⟨fun hm => ?_, fun e => ?_⟩
      · have := (h.ltF b hm).2; omega
      · have := h.ltp; omega
  · obtain ⟨a1, a2, a3, a4⟩ := h.lX q hq
    refine ⟨fun hm => ?_, a2, a3, a4⟩
    rcases hX _ hm with h1 | h1
    · exact a1 h1
    · have := (h.own.blk q hq).lt; omega
/-- The links are others. -/
theorem TS.link (h : TS w0 W L Iv base r gN nb mt X D F nc kc m rooms p mb lk mL base2) (hI : IvOk w0 Iv) (K : Keeps W u F) {fL : Nat → Int → Option Value} (LA : LinksAt u F' rooms p mb fL lk' mL' base2) (hF : ∀ b ∈ F', b ∈ F ∨ W.heap.size ≤ b) : TS w0 u L Iv base r gN nb mt X D F' nc kc m rooms p mb lk' mL' base2 := by
  obtain ⟨f, ht⟩ := h.tk
  refine ⟨h.own.wrote K (fun b hb hb' => ?_) (fun q hq => (h.lX q hq).2.2.1), ⟨f, ht.keptS K fun b hb hm => (h.xF b hm).1 hb⟩, ⟨fL, LA⟩, hI _ _ _ _ h.iv K (fun b hb => ⟨fun hm => (h.dF b hm).1 hb, by have := (h.ltF b hb).1; have := h.bs.2; omega⟩), h.bs, fun b hb => ⟨(h.dD b hb).1, Nat.lt_of_lt_of_le (h.dD b hb).2 K.size⟩, h.dX, fun b hb => ⟨fun hm => ?_, (h.dF b hb).2⟩, fun b hb => ⟨fun hm => ?_, (h.xF b hb).2⟩, fun q hq => ?_, h.hp⟩
  · have := (h.ltF b hb).1
    have := h.bs.2
    omega
  · rcases hF b hm with h1 | h1
    · exact (h.dF b hb).1 h1
    · have := (h.dD b hb).2; omega
  · rcases hF b hm with h1 | h1
    · exact (h.xF b hb).1 h1
    · have := (h.ltX b hb).2; omega
  · obtain ⟨a1, a2, a3, a4⟩ := h.lX q hq
    refine ⟨a1, a2, fun hm => ?_, a4⟩
    rcases hF _ hm with h1 | h1
    · exact a3 h1
    · have := (h.own.blk q hq).lt; omega
/-- The client has gone on. -/
theorem TS.client {Iv' : World → List Nat → Prop} (h : TS w0 W L Iv base r gN nb mt X D F nc kc m rooms p mb lk mL base2) (K : Keeps W u D) (hv : Iv' u D') (hD : ∀ b ∈ D', b ∈ D ∨ W.heap.size ≤ b) (hlt : ∀ b ∈ D', b < u.heap.size) : TS w0 u L Iv' base r gN nb mt X D' F nc kc m rooms p mb lk mL base2 := by
  obtain ⟨f, ht⟩ := h.tk
  obtain ⟨fL, hl⟩ := h.la
  refine ⟨h.own.wrote K (fun b hb hb' => ?_) (fun q hq => (h.lX q hq).2.1), ⟨f, ht.keptS K fun b hb => h.dX b hb⟩, ⟨fL, hl.kept K fun b hb => h.dF b hb⟩, hv, h.bs, fun b hb => ⟨?_, hlt b hb⟩, fun b hb hm => ?_, fun b hb => ⟨fun hm => ?_, fun e => ?_⟩, h.xF, fun q hq => ?_, h.hp⟩
  · have := (h.dD b hb).1; omega
  · rcases hD b hb with h1 | h1
    · exact (h.dD b h1).1
    · have := h.own.keep.size; omega
  · rcases hD b hb with h1 | h1
    · exact h.dX b h1 hm
    · have := (h.ltX b hm).2; omega
  · rcases hD b hb with h1 | h1
    · exact (h.dF b h1).1 hm
    · have := (h.ltF b hm).2; omega
  · rcases hD b hb with h1 | h1
    · exact (h.dF b h1).2 e
    · have := h.ltp; omega
  · obtain ⟨a1, a2, a3, a4⟩ := h.lX q hq
    refine ⟨a1, fun hm => ?_, a3, a4⟩
    rcases hD _ hm with h1 | h1
    · exact a2 h1
    · have := (h.own.blk q hq).lt; omega
theorem TkAt.nowsame2 {f : Nat → Int → Option Value} (h : TkAt W base r gN nb mt f X nc kc m) (e : ∀ i, i < r → ∀ j : Nat, j < r → nc i j = nc' i j) (e2 : ∀ i, i < 3 → kc i = kc' i) : TkAt W base r gN nb mt f X nc' kc' m :=
  { h.nowsame e with kept := fun i hi a => by have := h.kept i hi a; rw [e2 i hi] at this; exact this }
theorem TS.same (h : TS w0 W L Iv base r gN nb mt X D F nc kc m rooms p mb lk mL base2) (e : ∀ i, i < r → ∀ j : Nat, j < r → nc i j = nc' i j) (e2 : ∀ i, i < 3 → kc i = kc' i) : TS w0 W L Iv base r gN nb mt X D F nc' kc' m rooms p mb lk mL base2 := by
  obtain ⟨f, ht⟩ := h.tk
  exact { h with tk := ⟨f, ht.nowsame2 e e2⟩ }
theorem TS.mono (h : TS w0 W L Iv base r gN nb mt X D F nc kc m rooms p mb lk mL base2) (hm : m ≤ m') (hL : mL ≤ mL') : TS w0 W L Iv base r gN nb mt X D F nc kc m' rooms p mb lk mL' base2 := by
  obtain ⟨f, ht⟩ := h.tk
  obtain ⟨fL, hl⟩ := h.la
  exact { h with tk := ⟨f, ht.mono hm⟩, la := ⟨fL, hl.mono hL⟩ }
end
end Go.Proofs.Ytakmcpadkanggaa
namespace Go.Proofs.Ytakmcpadkanggaa
open Go.RowKit Go.Maps Go.Deep
theorem Own.rebase {w0 w W : World} {L : List Ent} (O : Own w W [] L) (K : Keeps w0 w []) : Own w0 W [] L := ⟨K.trans O.keep (by simp), O.blk, fun e he hlt => O.new e he (Nat.lt_of_lt_of_le hlt K.size), O.nd⟩
def rowsZ (r : Nat) (nb : Nat → Nat) (k : Nat) : Array Value := (Array.range r).map fun i => if i < k then .slice (some ⟨nb i, 0, none⟩) r r else .slice none 0 0
theorem rowsZ_size (r : Nat) (nb : Nat → Nat) (k : Nat) : (rowsZ r nb k).size = r := by simp [rowsZ]
theorem rowsZ_set (r : Nat) (nb : Nat → Nat) (k g : Nat) : (rowsZ r nb k).setIfInBounds k (.slice (some ⟨g, 0, none⟩) r r) = rowsZ r (updN nb k g) (k + 1) := by
  apply Array.ext_getElem?
  intro i
  rw [Array.getElem?_setIfInBounds, rowsZ_size]
  by_cases hi : i < r
  · by_cases e : k = i
    · subst e; rw [if_pos rfl, if_pos hi]; simp [rowsZ, hi, updN]
    · rw [if_neg e]
      by_cases h2 : i < k
      · simp [rowsZ, hi, h2, show i < k + 1 by omega, updN, show ¬ i = k from fun q => e q.symm]
      · simp [rowsZ, hi, h2, show ¬ i < k + 1 by omega]
  · by_cases e : k = i
    · subst e; rw [if_pos rfl, if_neg hi]; simp [rowsZ, hi]
    · rw [if_neg e]; simp [rowsZ, hi]
theorem rowsZ_all (r : Nat) (nb : Nat → Nat) : rowsZ r nb r = rowsA r nb := by
  unfold rowsZ rowsA
  apply Array.ext_getElem?
  intro i
  by_cases hi : i < r
  · simp [hi]
  · simp [hi]
section
variable {ops : Array Oper} {rest : List Oper} {o : Oper} {a : Act} {w W : World} {Q : Exit → Act → World → Prop} {S : List Nat} {L : List Ent} {x : Operand}
theorem own_makeIK (d n : Nat) (O : Own w W S L) (_hd : o.dst = some d) (hgd : o.guard = none) (ho : o.op = .makeSlice 25 x x) (hx : a.eval x = .int .i64 (n : Int)) (hn : n ≤ 1000000)
    (h : ∀ u g, Own w u S ((g, 3, arrI n fun _ => 0) :: L) → Keeps W u [] → W.heap.size ≤ g → wpList Try.prog ops Q rest (a.put o.dst (.slice (some ⟨g, 0, none⟩) n n)) u) : wpList Try.prog ops Q (o :: rest) a W := by
  refine wpList_plain hgd fun K hK => ?_
  unfold Oper.wp execOp
  simp only [ho, hx, Sem.run_bind, run_make_row' 25 3 (.int .i64 0) 8 Try.underlying25 info3' rfl .i64 .i64 n (by omega) (by omega), Result.andThen_ok, Sem.run_pure]
  have k := (Keeps.refl W []).alloc (.cells (arrI n fun _ => 0) 3)
  refine hK _ _ ?_
  rw [made_I]
  exact h _ _ (O.add k (Blk.new _ _ _)) k (Nat.le_refl _)
theorem info25' : (Try.prog.info? 25).map (fun i => (i.zero, i.size, i.bytes)) = some (some (.slice none 0 0), 1, 24) := by kernel_rfl
theorem own_makeSK (d n : Nat) (O : Own w W S L) (_hd : o.dst = some d) (hgd : o.guard = none) (ho : o.op = .makeSlice 68 x x) (hx : a.eval x = .int .i64 (n : Int)) (hn : n ≤ 1000000)
    (h : ∀ u g, Own w u S ((g, 25, rowsZ n (fun _ => 0) 0) :: L) → Keeps W u [] → W.heap.size ≤ g → wpList Try.prog ops Q rest (a.put o.dst (.slice (some ⟨g, 0, none⟩) n n)) u) : wpList Try.prog ops Q (o :: rest) a W := by
  refine wpList_plain hgd fun K hK => ?_
  unfold Oper.wp execOp
  simp only [ho, hx, Sem.run_bind, run_make_row' 68 25 (.slice none 0 0) 24 Try.underlying68 info25' rfl .i64 .i64 n (by omega) (by omega), Result.andThen_ok, Sem.run_pure]
  have k := (Keeps.refl W []).alloc (.cells (rowsZ n (fun _ => 0) 0) 25)
  refine hK _ _ ?_
  have e : madeCells #[Value.slice none 0 0] n = rowsZ n (fun _ => 0) 0 := by
    apply Array.ext_getElem?
    intro j
    by_cases hj : j < n
    · simp [madeCells, rowsZ, hj, Nat.mod_one]
    · simp [madeCells, rowsZ, hj]
  rw [e]
  exact h _ _ (O.add k (Blk.new _ _ _)) k (Nat.le_refl _)
end
/-- The function is one of the program's own. -/
def FnOk (fn : Nat) : Prop := ∀ (args : Array Value) (w : World), (callFunc fn args).run Try.prog w = .ok (.enter fn args) w
theorem wpList_call_fn {ops : Array Oper} {rest : List Oper} {o : Oper} {a : Act} {W : World} {Q : Exit → Act → World → Prop} {x y0 y1 : Operand} {ats : Array TypeId} {fn : Nat} {caps : Array Value} (v0 v1 : Value) (hgd : o.guard = none) (ho : o.op = .call { callee := .value x, args := #[y0, y1], argTypes := ats }) (hx : a.eval x = .func (.func fn) #[] caps) (h0 : a.eval y0 = v0) (h1 : a.eval y1 = v1) (hf : FnOk fn)
    (h : Calls Try.prog fn (#[v0, v1] ++ caps) W fun e u => ∃ v, e = .returned v ∧ wpList Try.prog ops Q rest (a.put o.dst v) u) : wpList Try.prog ops Q (o :: rest) a W := by
  refine wpList_plain hgd fun K hK => ?_
  have hr : (execOp a.eval o).run Try.prog W = .ok (.enter fn (#[v0, v1] ++ caps)) W := by
    unfold execOp
    simp only [ho, resolve, hx, Deferred.ofValue, invoke, Sem.run_bind, Sem.run_pure, Result.andThen_ok, List.map_toArray, List.map_cons, List.map_nil, h0, h1, Array.empty_append]
    exact hf (#[v0, v1] ++ caps) W
  unfold Oper.wp
  rw [hr, Oper.upon_enter]
  exact h.mono fun e u ⟨v, he, hw⟩ => by subst he; exact hK _ _ hw
section
variable {w0 w : World} {S : Sys} {A : Option Addr} {c : Nat} {R : Option Addr} {d m r : Nat} {E : Nat → Ev} {B : Option Addr} {cb : Nat}
/-- The beginning. -/
theorem ts_start {W u : World} {Iv : World → List Nat → Prop} {gN b4 p : Nat} {nb mt : Nat → Nat} {F D0 : List Nat} {mb : Nat → Nat} {fL : Nat → Int → Option Value} {rm : Int → Int} {rooms : Value} (K0 : Keeps w0 w []) (O : Own w W [] [(gN, 25, rowsA r nb), (b4, 27, sysV S A c R d)]) (hI : IvOk w0 Iv) (h0 : Iv w D0) (hD0 : ∀ b ∈ D0, w0.heap.size ≤ b ∧ b < w.heap.size)
    (hgN : w.heap.size ≤ gN) (hb4 : w.heap.size ≤ b4) (hb4g : b4 < gN) (hrow : ∀ i, i < r → ClkAt W (nb i) r (fun _ => 0) ∧ b4 < nb i) (hne : ∀ i j, i < r → j < r → i ≠ j → nb i ≠ nb j)
    (hmt : ∀ i, i < 3 → MapV W (mt i) 0 (fun _ => none) ∧ b4 < mt i) (hmn : ∀ i j, i < 3 → j < 3 → i ≠ j → mt i ≠ mt j) (KW : Keeps W u []) (LA : LinksAt u F rooms p mb fL lk0 0 W.heap.size) (hp : W.heap.size ≤ p) :
    ∃ X, TS w0 u [(b4, 27, sysV S A c R d)] Iv w.heap.size r gN nb mt X D0 F (nowN E rm 0) (tkC E rm r 0) 0 rooms p mb lk0 0 W.heap.size := by
  have hw := K0.size
  have hgl := (O.get 0 rfl).lt
  have hbl := (O.get 1 rfl).lt
  have hX : ∀ b ∈ gN :: mt 0 :: mt 1 :: mt 2 :: (List.range r).map nb, b4 < b ∧ b < W.heap.size := fun b hb => by
    simp only [List.mem_cons, List.mem_map, List.mem_range] at hb
    rcases hb with rfl | rfl | rfl | rfl | ⟨i, hi, rfl⟩
    · exact ⟨hb4g, hgl⟩
    · exact ⟨(hmt 0 (by decide)).2, (hmt 0 (by decide)).1.lt⟩
    · exact ⟨(hmt 1 (by decide)).2, (hmt 1 (by decide)).1.lt⟩
    · exact ⟨(hmt 2 (by decide)).2, (hmt 2 (by decide)).1.lt⟩
    · exact ⟨(hrow i hi).2, (hrow i hi).1.lt⟩
  have hF : ∀ b ∈ F, W.heap.size ≤ b := fun b hb => (LA.ltF b hb).1
  have hkn : ∀ i a, rowV (fun _ _ => none) i a = Value.slice none 0 0 := fun _ _ => rfl
  refine ⟨gN :: mt 0 :: mt 1 :: mt 2 :: (List.range r).map nb, ((O.rebase K0).drop_ 1).keeps KW, ⟨fun _ _ => none, (O.get 0 rfl).keeps KW (by simp), fun i hi => ?_, fun i hi => (hmt i hi).1.keeps KW (by simp), fun i hi a => ?_, by simp, fun i hi => ?_, fun i hi => ?_, (fun i hi a g hg => by cases hg), fun b hb => ⟨by have := (hX b hb).1; omega, by have := (hX b hb).2; have := KW.size; omega⟩, hne, hmn, (fun i hi a g hg => by cases hg)⟩, ⟨fL, LA⟩, hI _ _ _ _ h0 (O.keep.trans KW (by simp)) (by simp), ⟨hw, by omega⟩, fun b hb => ⟨(hD0 b hb).1, by have := (hD0 b hb).2; have := KW.size; omega⟩, fun b hb hm => ?_, fun b hb => ⟨fun hm => ?_, fun e => ?_⟩, fun b hb => ⟨fun hm => ?_, fun e => ?_⟩, fun q hq => ?_, by omega⟩
  · refine ((hrow i hi).1.keeps KW (by simp)).same fun j hj => ?_
    rfl
  · rw [hkn]
    have e : tkC E rm r 0 i a = [] := by
      unfold tkC
      split
      · rw [if_neg (by omega)]
      · split
        · rw [if_pos (by simp [pickL])]
        · rw [if_pos (by simp [freeL, pickL])]
    rw [e]
    exact HRow.nil _ _
  · simp only [List.mem_cons, List.mem_map, List.mem_range]
    exact .inr (.inr (.inr (.inr ⟨i, hi, rfl⟩)))
  · match i, hi with
    | 0, _ => simp
    | 1, _ => simp
    | 2, _ => simp
  · have := (hD0 b hb).2; have := (hX b hm).1; omega
  · have := (hD0 b hb).2; have := hF b hm; omega
  · have := (hD0 b hb).2; omega
  · have := (hX b hb).2; have := hF b hm; omega
  · have := (hX b hb).2; omega
  · rw [List.mem_singleton.1 hq]
    refine ⟨fun hm => ?_, fun hm => ?_, fun hm => ?_, fun e => ?_⟩
    · have := (hX _ hm).1; omega
    · have := (hD0 _ hm).2; simp only at this; omega
    · have := hF _ hm; simp only at this; omega
    · simp only at e; omega
def SeePost (Iv : World → List Nat → Prop) (b : Bool) (u : World) (D : List Nat) (e : Ending) (u' : World) : Prop :=
  e = .returned (.bool b) ∧ (∃ D', Iv u' D' ∧ (∀ q ∈ D', q ∈ D ∨ u.heap.size ≤ q) ∧ ∀ q ∈ D', q < u'.heap.size) ∧ Keeps u u' D
def TicksPost (Inv : Nat → World → List Nat → Prop) (cont : Nat → Bool) (w0 : World) (m : Nat) (e : Ending) (u : World) : Prop :=
  e = .returned (.tuple #[]) ∧ Keeps w0 u [] ∧ ∃ k D, Inv k u D ∧ ((k = m ∧ ∀ i, i < m → cont i = true) ∨ ∃ i, k = i + 1 ∧ i < m ∧ cont i = false ∧ ∀ q, q < i → cont q = true)
set_option maxRecDepth 100000 in
set_option maxHeartbeats 4000000 in
theorem ticks_any (fn : Nat) (caps : Array Value) (Inv : Nat → World → List Nat → Prop) (cont : Nat → Bool) (D0 : List Nat) (K0 : Keeps w0 w []) (hS : SysIn w0 S A c R d) (hE : EvsAt w0 B m E) (hrm : ∀ q, q < S.nr → 1 ≤ S.rm q ∧ S.rm q ≤ 1000000) (hok : OkAll S E m) (hm : m ≤ 40000) (hwf : ∀ i, i < m → (Lit.int .i64 (E i).a).wf = true)
    (hr : (stN E m).r ≤ r) (hr2 : r ≤ 1000000) (hfn : FnOk fn) (hI : ∀ k, IvOk w0 (Inv k)) (h0 : Inv 0 w D0) (hD0 : ∀ b ∈ D0, w0.heap.size ≤ b ∧ b < w.heap.size)
    (hC : ∀ k, k < m → ∀ u D g, Inv k u D → g ∉ D → ClkAt u g r (clk E (rmS S) k) → Calls Try.prog fn (#[.int .i64 (k : Int), .slice (some ⟨g, 0, none⟩) r r] ++ caps) u (SeePost (Inv (k + 1)) (cont k) u D)) :
    Calls Try.prog 72 #[.agg (sysV S A c R d), .slice B m cb, .int .i64 (r : Int), .func (.func fn) #[] caps] w (TicksPost Inv cont w0 m) := by
  have O := Own.start w []
  have HE := Lib.hid hE
  have HS := Lib.hid hS
  have HK0 := Lib.hid K0
  have HI := Lib.hid hI
  have H0 := Lib.hid h0
  have HD0 := Lib.hid hD0
  have HOK := Lib.hid hok
  have HRM := Lib.hid hrm
  have HWF := Lib.hid hwf
  have HR := Lib.hid hr
  have HC := Lib.hid hC
  have HFN := Lib.hid hfn
  clear hE hS K0 hI h0 hD0 hok hrm hwf hr hC hfn
  go_enter Try.func72, Try.ntmps72
  go_wp2_with (first
    | (have hws := O.keep.size; refine own_boxK 4 (sysV S A c R d) O rfl rfl rfl rfl ?_; clear O; intro W b4 O K hb; have HB4 := Lib.hid (Nat.le_trans hws hb); clear hb K hws; simp only [Act.put, List.setIfInBounds_toArray, List.set_cons_zero, List.set_cons_succ])
    | (have hws := O.keep.size; have hb4 := O.lt 0 rfl; refine own_makeSK 20 r O rfl rfl rfl rfl hr2 ?_; clear O; intro W gN O K hb; have HGN := Lib.hid (And.intro (Nat.le_trans hws hb) (show b4 < gN by omega)); clear K hb hws hb4; simp only [Act.put, List.setIfInBounds_toArray, List.set_cons_zero, List.set_cons_succ]))
  go_loopg [23] r (fun g s23 wr => ∃ (k : Nat) (nb : Nat → Nat), k ≤ r ∧ g = r - k ∧ s23 = .int .i64 (k : Int) ∧ Own w wr [] [(gN, 25, rowsZ r nb k), (b4, 27, sysV S A c R d)] ∧ (∀ i, i < k → ClkAt wr (nb i) r (fun _ => 0) ∧ b4 < nb i) ∧ ∀ i j, i < k → j < k → i ≠ j → nb i ≠ nb j)
  case atStart => exact ⟨0, fun _ => 0, by omega, by omega, rfl, O, fun i hi => by omega, fun i j hi => by omega⟩
  case round =>
    obtain ⟨k, nb, hk, hgk, rfl, O, hrow, hne⟩ := hrel
    have HG := Lib.hid hgk
    have HROW := Lib.hid hrow
    have HNE := Lib.hid hne
    clear hgk hrow hne
    by_cases hlt : k < r
    · have g1 : (k : Int) < r := by omega
      have g0 : (0 : Int) ≤ k := by omega
      go_wp2_with (first
        | (have hb4 := O.lt 1 rfl; refine own_makeIK 29 r O rfl rfl rfl rfl hr2 ?_; clear O; intro W g O K hb; have HG2 := Lib.hid (And.intro (show b4 < g by omega) (fun i (hi : i < k) => (show ClkAt W (nb i) r (fun _ => 0) ∧ nb i < g from ⟨(HROW.out i hi).1.keeps K (by simp), by have := (HROW.out i hi).1.lt; omega⟩))); clear K hb hb4; simp only [Act.put, List.setIfInBounds_toArray, List.set_cons_zero, List.set_cons_succ])
        | (refine wpList_store_blk gN k 25 (rowsZ r nb k) (.slice (some ⟨g, 0, none⟩) r r) rfl rfl rfl rfl rfl (O.get 1 rfl) (by rw [rowsZ_size]; exact hlt) rfl rfl (by kernel_rfl) ?_; intro W2 K B; have hbn := blk_ne (O.get 0 rfl) (O.get 1 rfl) (by decide); rw [rowsZ_set] at B; have O2 := (O.set 1 rfl K B).drop_ 1; have hg0 := (O.get 0 rfl).keeps K (by simpa using hbn); have HN := Lib.hid (show (∀ i, i < k + 1 → ClkAt W2 (updN nb k g i) r (fun _ => 0) ∧ b4 < updN nb k g i) ∧ ∀ i j, i < k + 1 → j < k + 1 → i ≠ j → updN nb k g i ≠ updN nb k g j from ⟨fun i hi => by
            unfold updN
            by_cases e : i = k
            · rw [if_pos e]; exact ⟨⟨_, hg0, CurI.arr _ _⟩, HG2.out.1⟩
            · rw [if_neg e]
              obtain ⟨cur, hb, hc⟩ := (HG2.out.2 i (by omega)).1
              exact ⟨⟨cur, hb.keeps K (by simpa using blk_ne hb (O.get 1 rfl) (by decide)), hc⟩, (HROW.out i (by omega)).2⟩, fun i j hi hj hij => by
            unfold updN
            by_cases e : i = k
            · rw [if_pos e, if_neg (by omega)]; have := (HG2.out.2 j (by omega)).2; omega
            · rw [if_neg e]
              by_cases e2 : j = k
              · rw [if_pos e2]; have := (HG2.out.2 i (by omega)).2; omega
              · rw [if_neg e2]; exact HNE.out i j (by omega) (by omega) hij⟩); clear K B hbn hg0 O))
      go_roundg (r - (k + 1))
      case measure => (have := HG.out; omega)
      case rel => exact ⟨k + 1, updN nb k g, by omega, rfl, by go_num, O2, HN.out.1, HN.out.2⟩
    · obtain rfl : r = k := by omega
      clear HG
      rw [rowsZ_all] at O
      go_wp2_with (first
        | (have hb4 := O.lt 1 rfl; refine at_dst 32 rfl ?_; refine own_makeMapV 32 O rfl rfl rfl ?_; clear O; intro W m0 O K M hb; have HR0 := Lib.hid (fun i (hi : i < r) => (HROW.out i hi).1.keeps K (by simp)); have hm0 : b4 < m0 := (by omega); clear K hb hb4; simp only [Act.put, List.setIfInBounds_toArray, List.set_cons_zero, List.set_cons_succ])
        | (have hl0 := M.lt; refine at_dst 33 rfl ?_; refine own_makeMapV 33 O rfl rfl rfl ?_; clear O; intro W m1 O K M1 hb; replace M := M.keeps K (by simp); have HR1 := Lib.hid (fun i (hi : i < r) => (HR0.out i hi).keeps K (by simp)); have hm1 : m0 < m1 := (by omega); clear K hb hl0 HR0; simp only [Act.put, List.setIfInBounds_toArray, List.set_cons_zero, List.set_cons_succ])
        | (have hl1 := M1.lt; refine at_dst 34 rfl ?_; refine own_makeMapV 34 O rfl rfl rfl ?_; clear O; intro W m2 O K M2 hb; replace M := M.keeps K (by simp); replace M1 := M1.keeps K (by simp); have HR2 := Lib.hid (fun i (hi : i < r) => (HR1.out i hi).keeps K (by simp)); have hm2 : m1 < m2 := (by omega); clear K hb hl1 HR1; simp only [Act.put, List.setIfInBounds_toArray, List.set_cons_zero, List.set_cons_succ])
        | (refine own_load 35 1 O rfl rfl rfl rfl rfl Try.underlying27 rfl (by kernel_rfl) ?_; simp only [Act.put, List.setIfInBounds_toArray, List.set_cons_zero, List.set_cons_succ])
        | (go_at_call 69; refine newLinks_any.mono ?_; rintro e W' ⟨⟨p, F, mb, fL, rfl, LA, hp⟩, K⟩; obtain ⟨mt, q0, q1, q2⟩ : ∃ mt : Nat → Nat, mt 0 = m0 ∧ mt 1 = m1 ∧ mt 2 = m2 := ⟨fun i => [m0, m1, m2].getD i 0, rfl, rfl, rfl⟩; subst q0 q1 q2; obtain ⟨X, T⟩ := ts_start (E := E) (rm := rmS S) HK0.out O (HI.out 0) H0.out HD0.out HGN.out.1 HB4.out HGN.out.2 (fun i hi => ⟨HR2.out i hi, (HROW.out i hi).2⟩) HNE.out (fun i hi => match i, hi with | 0, _ => ⟨M, hm0⟩ | 1, _ => ⟨M1, by omega⟩ | 2, _ => ⟨M2, by omega⟩) (fun i j hi hj hij => by match i, hi, j, hj with | 0, _, 0, _ => omega | 0, _, 1, _ => omega | 0, _, 2, _ => omega | 1, _, 0, _ => omega | 1, _, 1, _ => omega | 1, _, 2, _ => omega | 2, _, 0, _ => omega | 2, _, 1, _ => omega | 2, _, 2, _ => omega) K LA hp; clear O K LA hp M M1 M2 hm0 hm1 hm2 HR2))
      clear HROW HNE HGN HB4
      obtain ⟨base2, hb2⟩ : ∃ b, b = W.heap.size := ⟨_, rfl⟩
      rw [← hb2] at T
      clear hb2
      go_loopg [39] m (fun g s39 wr => ∃ (k : Nat) (X D F : List Nat) (q mL : Nat), k ≤ m ∧ g = m - k ∧ s39 = .int .i64 (k : Int) ∧ TS w0 wr [(b4, 27, sysV S A c R d)] (Inv k) w.heap.size r gN nb mt X D F (nowN E (rmS S) k) (tkC E (rmS S) r k) q (.slice R S.nr d) p mb (lkT E k) mL base2 ∧ q ≤ k ∧ mL ≤ 2 * k ∧ ∀ i, i < k → cont i = true)
      case atStart => exact ⟨0, X, D0, F, 0, 0, by omega, by omega, rfl, T, by omega, by omega, fun i hi => by omega⟩
      case round =>
        clear T
        obtain ⟨k, X, D, F, q, mL, hk, hgk, rfl, T, hq, hmL, hct⟩ := hrel
        have HG := Lib.hid hgk
        have HCT := Lib.hid hct
        clear hgk hct
        by_cases hlt : k < m
        · have g1 : (k : Int) < m := by omega
          have g0 : (0 : Int) ≤ k := by omega
          obtain ⟨ad, rfl, hc⟩ := EvsAt.row (u := w0) HE.out hlt
          have HCE := Lib.hid hc
          have hok := HOK.out k hlt
          have HOKk := Lib.hid hok
          obtain ⟨hw1, hw2, _⟩ := ok_head hok
          obtain ⟨wn, hwn⟩ : ∃ wn : Nat, (E k).who = (wn : Int) := ⟨(E k).who.toNat, by omega⟩
          have hwr : wn < r := by
            have := stN_r_mono E (show k ≤ m by omega)
            have := HR.out
            omega
          have HWN := Lib.hid hwn
          obtain ⟨e, he⟩ : ∃ e, e = E k := ⟨_, rfl⟩
          have HEK := Lib.hid he
          rw [← he] at hc HCE hwn
          clear hc hok hw1 hw2
          obtain ⟨who, op, a, v, sh⟩ := e
          simp only at hwn
          subst hwn
          have g2 : (wn : Int) < r := by omega
          have g3 : (0 : Int) ≤ wn := by omega
          clear he
          go_upto_block 4 with (first
            | (refine wpList_load_at 43 rfl rfl rfl rfl (HCE.out [] _ T.own.keep (by simp)) Try.underlying37 rfl (by kernel_rfl) ?_; simp only [Act.put, List.setIfInBounds_toArray, List.set_cons_zero, List.set_cons_succ])
            | (refine own_allocK 15 (evC ⟨0, 0, 0, 0, false⟩) T.own rfl rfl rfl (fun _ => by kernel_rfl) ?_; intro W1 b15 O K1 hb; replace T := T.add (HI.out k) K1 O hb; clear O K1 hb; simp only [Act.put, List.setIfInBounds_toArray, List.set_cons_zero, List.set_cons_succ])
            | (refine own_store_rowK 0 (.tmp 15) (.tmp 43) T.own rfl rfl rfl rfl rfl rfl (by kernel_rfl) (by rfl) (evC_cell _) ?_; intro W2 O K2; simp only [List.set_cons_zero] at O; replace T := T.wrote (HI.out k) K2 O ⟨(b15, 37, evC ⟨0, 0, 0, 0, false⟩), by simp, rfl⟩ rfl; clear O K2; have c15 : ∀ i : Nat, W2.cell? ⟨b15, i, none⟩ = #[Value.int .i64 (wn : Int), .int .i64 op, .int .i64 a, .int .i64 v, .bool sh][i]? := (T.own.get 0 rfl).cell; have cN : W2.cell? ⟨gN, wn, none⟩ = some (.slice (some ⟨nb wn, 0, none⟩) r r) := (by obtain ⟨f, ht⟩ := T.tk; exact (ht.now.cell wn).trans (rowsA_get _ _ _ hwr))))
          go_cut [] (fun wx => ∃ F2, TS w0 wx [(b15, 37, evC ⟨(wn : Int), op, a, v, sh⟩), (b4, 27, sysV S A c R d)] (Inv k) w.heap.size r gN nb mt X D F2 (updN (nowN E (rmS S) k) wn (mxC E (rmS S) (intoL E (rmS S) k))) (tkC E (rmS S) r k) q (.slice R S.nr d) p mb (lkT E (k + 1)) (mL + 2) base2)
          case first =>
            have HML := Lib.hid (show mL ≤ 80000 by omega)
            have HWW := Lib.hid (wf_small (n := (wn : Int)) (by omega) (by omega))
            have HWA := Lib.hid (by have := HWF.out k hlt; rwa [← HEK.out] at this : (Lit.int .i64 a).wf = true)
            by_cases o11 : op = 11
            · subst o11
              have HLQ := Lib.hid (show ownK (lkT E k) (wn : Int) (k : Int) = lkT E (k + 1) by rw [lkT, if_pos (by rw [← HEK.out]; rfl), ← HEK.out])
              have HLW := Lib.hid (wait_now (E := E) (rm := rmS S) (r := r) (j := k) (by rw [← HEK.out]))
              rw [← HEK.out] at HLW
              obtain ⟨f, ht⟩ := T.tk
              obtain ⟨A1, q1, e1, _⟩ := (ht.kept 1 (by decide) (a)).shape
              have hR := ht.kept 1 (by decide) (a)
              obtain ⟨xs, hxs⟩ : ∃ xs, xs = tkC E (rmS S) r k 1 (a) := ⟨_, rfl⟩
              obtain ⟨n1, hn1⟩ : ∃ n, n = xs.length := ⟨_, rfl⟩
              have HXL := Lib.hid (show xs.length ≤ r by rw [hxs]; rcases tkC_len E (rmS S) r k 1 (a) with h | h <;> rw [h] <;> simp)
              rw [← hxs, ← hn1] at e1
              rw [← hxs] at hR
              have HNB := Lib.hid (show ∀ g, (Value.slice A1 n1 q1).ownBlock = some g → nb wn ≠ g from fun g hg => ht.nbk 1 (by decide) (a) g (by rw [e1]; exact hg) wn hwr)
              rw [e1] at hR
              have lk : (Instr.lookup 159 (.map (some (mt 1))) (.int .i64 (a)) false).run Try.prog W2 = .ok (.slice A1 n1 q1) W2 := by
                have := look_eqV (ht.maps 1 (by decide)) 159 25 (.slice none 0 0) Try.underlying159 (zero25 _) (a) HWA.out
                rwa [show (f 1 (a)).getD (.slice none 0 0) = .slice A1 n1 q1 from e1] at this
              have HXS := Lib.hid hxs
              clear e1 hxs hn1 ht f
              have HLN := Lib.hid (show ∀ w : Nat, w < r → jmax (nowN E (rmS S) k wn) xs xs.length (w : Int) = mxC E (rmS S) (intoL E (rmS S) k) (w : Int) by rw [HXS.out]; exact HLW.out)
              clear HLW
              go_wp2_with (first
                | (refine own_litS 74 (.slice A1 n1 q1) T.own rfl rfl rfl rfl rfl ?_; clear lk; intro W3 gl O K hgl; replace T := T.add (HI.out k) K O hgl; replace hR := hR.keeps K (by simp); clear O K hgl; simp only [Act.put, List.setIfInBounds_toArray, List.set_cons_zero, List.set_cons_succ])
                | (go_at_call 99; obtain ⟨f3, ht3⟩ := T.tk; obtain ⟨cur, hBv, hcv⟩ := ht3.rows wn hwr; refine (joined_any hBv hcv (T.own.get 0 rfl) (by have := hR.listL.1; exact this) (HXL.out) hr2 (fun ad n q hv hn => ?_)).mono ?_; (· (exact fun e => HNB.out ad.block (by rw [hv]; rfl) e.symm)); rintro e W4 ⟨rfl, ⟨cu2, hB2, hs2, hc2⟩, K⟩; have T2 := (T.tick (HI.out k) (K.wide (L' := X) (fun b hb => by rw [List.mem_singleton.1 hb]; exact ht3.nX wn hwr)) (ht3.setNow hwr K ⟨cu2, hB2, hc2⟩) (fun b hb => .inl hb)).drop_ 1; clear T; have T := T2; clear T2 ht3 f3 hBv hcv hB2 hs2 hc2 K; have c15 : ∀ i : Nat, W4.cell? ⟨b15, i, none⟩ = #[Value.int .i64 (wn : Int), .int .i64 11, .int .i64 a, .int .i64 v, .bool sh][i]? := (T.own.get 0 rfl).cell)
                | (refine own_load 78 0 T.own rfl rfl rfl rfl rfl Try.underlying37 rfl (by kernel_rfl) ?_; simp only [Act.put, List.setIfInBounds_toArray, List.set_cons_zero, List.set_cons_succ])
                | (go_at_call 94; obtain ⟨fL, hl⟩ := T.la; refine (own_any hl HWW.out (by have := HML.out; simp only [maxLen]; omega)).mono ?_; rintro e W5 ⟨rr, rfl, _, LA, K⟩; have T2 := T.link (HI.out k) (K.wide (L' := F) (fun b hb => by rw [List.mem_singleton.1 hb]; exact hl.inM 4 (by decide))) LA (fun b hb => .inl hb); clear T; have T := T2; clear T2 LA K hl fL))
              go_meet
              exact ⟨_, (by have T3 := T.same (nc' := updN (nowN E (rmS S) k) wn (mxC E (rmS S) (intoL E (rmS S) k))) (kc' := tkC E (rmS S) r k) (fun i hi j hj => by by_cases e : i = wn; (· (subst e; simp only [updN, if_true]; exact HLN.out j hj)); (· (simp only [updN, if_neg e]))) (fun i hi => rfl); rw [HLQ.out] at T3; exact T3.mono (Nat.le_refl _) (by omega))⟩
            by_cases o8 : op = 8
            · subst o8
              have HLQ := Lib.hid (show ownK (lkT E k) (wn : Int) (k : Int) = lkT E (k + 1) by rw [lkT, if_pos (by rw [← HEK.out]; rfl), ← HEK.out])
              have HLW := Lib.hid (lock_now (E := E) (rm := rmS S) (r := r) (j := k) (by rw [← HEK.out]))
              rw [← HEK.out] at HLW
              obtain ⟨f, ht⟩ := T.tk
              obtain ⟨A1, q1, e1, _⟩ := (ht.kept 2 (by decide) (a)).shape
              have hR := ht.kept 2 (by decide) (a)
              obtain ⟨xs, hxs⟩ : ∃ xs, xs = tkC E (rmS S) r k 2 (a) := ⟨_, rfl⟩
              obtain ⟨n1, hn1⟩ : ∃ n, n = xs.length := ⟨_, rfl⟩
              have HXL := Lib.hid (show xs.length ≤ r by rw [hxs]; rcases tkC_len E (rmS S) r k 2 (a) with h | h <;> rw [h] <;> simp)
              rw [← hxs, ← hn1] at e1
              rw [← hxs] at hR
              have HNB := Lib.hid (show ∀ g, (Value.slice A1 n1 q1).ownBlock = some g → nb wn ≠ g from fun g hg => ht.nbk 2 (by decide) (a) g (by rw [e1]; exact hg) wn hwr)
              rw [e1] at hR
              have lk : (Instr.lookup 159 (.map (some (mt 2))) (.int .i64 (a)) false).run Try.prog W2 = .ok (.slice A1 n1 q1) W2 := by
                have := look_eqV (ht.maps 2 (by decide)) 159 25 (.slice none 0 0) Try.underlying159 (zero25 _) (a) HWA.out
                rwa [show (f 2 (a)).getD (.slice none 0 0) = .slice A1 n1 q1 from e1] at this
              have HXS := Lib.hid hxs
              clear e1 hxs hn1 ht f
              have HLN := Lib.hid (show ∀ w : Nat, w < r → jmax (nowN E (rmS S) k wn) xs xs.length (w : Int) = mxC E (rmS S) (intoL E (rmS S) k) (w : Int) by rw [HXS.out]; exact HLW.out)
              clear HLW
              go_wp2_with (first
                | (refine own_litS 87 (.slice A1 n1 q1) T.own rfl rfl rfl rfl rfl ?_; clear lk; intro W3 gl O K hgl; replace T := T.add (HI.out k) K O hgl; replace hR := hR.keeps K (by simp); clear O K hgl; simp only [Act.put, List.setIfInBounds_toArray, List.set_cons_zero, List.set_cons_succ])
                | (go_at_call 99; obtain ⟨f3, ht3⟩ := T.tk; obtain ⟨cur, hBv, hcv⟩ := ht3.rows wn hwr; refine (joined_any hBv hcv (T.own.get 0 rfl) (by have := hR.listL.1; exact this) (HXL.out) hr2 (fun ad n q hv hn => ?_)).mono ?_; (· (exact fun e => HNB.out ad.block (by rw [hv]; rfl) e.symm)); rintro e W4 ⟨rfl, ⟨cu2, hB2, hs2, hc2⟩, K⟩; have T2 := (T.tick (HI.out k) (K.wide (L' := X) (fun b hb => by rw [List.mem_singleton.1 hb]; exact ht3.nX wn hwr)) (ht3.setNow hwr K ⟨cu2, hB2, hc2⟩) (fun b hb => .inl hb)).drop_ 1; clear T; have T := T2; clear T2 ht3 f3 hBv hcv hB2 hs2 hc2 K; have c15 : ∀ i : Nat, W4.cell? ⟨b15, i, none⟩ = #[Value.int .i64 (wn : Int), .int .i64 8, .int .i64 a, .int .i64 v, .bool sh][i]? := (T.own.get 0 rfl).cell)
                | (refine own_load 91 0 T.own rfl rfl rfl rfl rfl Try.underlying37 rfl (by kernel_rfl) ?_; simp only [Act.put, List.setIfInBounds_toArray, List.set_cons_zero, List.set_cons_succ])
                | (go_at_call 94; obtain ⟨fL, hl⟩ := T.la; refine (own_any hl HWW.out (by have := HML.out; simp only [maxLen]; omega)).mono ?_; rintro e W5 ⟨rr, rfl, _, LA, K⟩; have T2 := T.link (HI.out k) (K.wide (L' := F) (fun b hb => by rw [List.mem_singleton.1 hb]; exact hl.inM 4 (by decide))) LA (fun b hb => .inl hb); clear T; have T := T2; clear T2 LA K hl fL))
              go_meet
              exact ⟨_, (by have T3 := T.same (nc' := updN (nowN E (rmS S) k) wn (mxC E (rmS S) (intoL E (rmS S) k))) (kc' := tkC E (rmS S) r k) (fun i hi j hj => by by_cases e : i = wn; (· (subst e; simp only [updN, if_true]; exact HLN.out j hj)); (· (simp only [updN, if_neg e]))) (fun i hi => rfl); rw [HLQ.out] at T3; exact T3.mono (Nat.le_refl _) (by omega))⟩
            by_cases o10 : op = 10
            · subst o10
              have HLQ := Lib.hid (show ownK (lkT E k) (wn : Int) (k : Int) = lkT E (k + 1) by rw [lkT, if_pos (by rw [← HEK.out]; rfl), ← HEK.out])
              have HLN := Lib.hid (show ∀ w : Nat, w < r → nowN E (rmS S) k wn (w : Int) = mxC E (rmS S) (intoL E (rmS S) k) (w : Int) from fun w hw => by
                have := own_now (E := E) (rm := rmS S) (r := r) (j := k) (by rw [← HEK.out]; first | exact .inl rfl | exact .inr rfl) w hw
                rw [← HEK.out] at this
                exact this)
              go_wp2_with (first
                | (refine own_load 98 0 T.own rfl rfl rfl rfl rfl Try.underlying37 rfl (by kernel_rfl) ?_; simp only [Act.put, List.setIfInBounds_toArray, List.set_cons_zero, List.set_cons_succ])
                | (go_at_call 94; obtain ⟨fL, hl⟩ := T.la; refine (own_any hl HWW.out (by have := HML.out; simp only [maxLen]; omega)).mono ?_; rintro e W5 ⟨rr, rfl, _, LA, K⟩; have T2 := T.link (HI.out k) (K.wide (L' := F) (fun b hb => by rw [List.mem_singleton.1 hb]; exact hl.inM 4 (by decide))) LA (fun b hb => .inl hb); clear T; have T := T2; clear T2 LA K hl fL))
              go_meet
              exact ⟨_, (by have T3 := T.same (nc' := updN (nowN E (rmS S) k) wn (mxC E (rmS S) (intoL E (rmS S) k))) (kc' := tkC E (rmS S) r k) (fun i hi j hj => by by_cases e : i = wn; (· (subst e; simp only [updN, if_true]; exact HLN.out j hj)); (· (simp only [updN, if_neg e]))) (fun i hi => rfl); rw [HLQ.out] at T3; exact T3.mono (Nat.le_refl _) (by omega))⟩
            by_cases o9 : op = 9
            · subst o9
              have HLQ := Lib.hid (show ownK (lkT E k) (wn : Int) (k : Int) = lkT E (k + 1) by rw [lkT, if_pos (by rw [← HEK.out]; rfl), ← HEK.out])
              have HLN := Lib.hid (show ∀ w : Nat, w < r → nowN E (rmS S) k wn (w : Int) = mxC E (rmS S) (intoL E (rmS S) k) (w : Int) from fun w hw => by
                have := own_now (E := E) (rm := rmS S) (r := r) (j := k) (by rw [← HEK.out]; first | exact .inl rfl | exact .inr rfl) w hw
                rw [← HEK.out] at this
                exact this)
              go_wp2_with (first
                | (refine own_load 98 0 T.own rfl rfl rfl rfl rfl Try.underlying37 rfl (by kernel_rfl) ?_; simp only [Act.put, List.setIfInBounds_toArray, List.set_cons_zero, List.set_cons_succ])
                | (go_at_call 94; obtain ⟨fL, hl⟩ := T.la; refine (own_any hl HWW.out (by have := HML.out; simp only [maxLen]; omega)).mono ?_; rintro e W5 ⟨rr, rfl, _, LA, K⟩; have T2 := T.link (HI.out k) (K.wide (L' := F) (fun b hb => by rw [List.mem_singleton.1 hb]; exact hl.inM 4 (by decide))) LA (fun b hb => .inl hb); clear T; have T := T2; clear T2 LA K hl fL))
              go_meet
              exact ⟨_, (by have T3 := T.same (nc' := updN (nowN E (rmS S) k) wn (mxC E (rmS S) (intoL E (rmS S) k))) (kc' := tkC E (rmS S) r k) (fun i hi j hj => by by_cases e : i = wn; (· (subst e; simp only [updN, if_true]; exact HLN.out j hj)); (· (simp only [updN, if_neg e]))) (fun i hi => rfl); rw [HLQ.out] at T3; exact T3.mono (Nat.le_refl _) (by omega))⟩
            have q8 : (op == 8) = false := by simpa using o8
            have q9 : (op == 9) = false := by simpa using o9
            have q10 : (op == 10) = false := by simpa using o10
            have q11 : (op == 11) = false := by simpa using o11
            have HQE := Lib.hid (show quietE (E k) = false by rw [← HEK.out]; simp [quietE, q8, q9, q10, q11])
            have HLQ := Lib.hid (show nextK (lkT E k) (k : Int) ⟨(wn : Int), op, a, v, sh⟩ = lkT E (k + 1) by rw [lkT, if_neg (by rw [HQE.out]; decide), ← HEK.out])
            have HIN := Lib.hid (show scL (nextR (lkT E k) (rmS S) ⟨(wn : Int), op, a, v, sh⟩) = intoL E (rmS S) k by unfold intoL; rw [← HEK.out, nextR_eq (lkT_eq E k) _ _ o8 o11])
            have HNX := Lib.hid (fun u (K : Keeps w0 u []) F fL (hl : LinksAt u F (.slice R S.nr d) p mb fL (lkT E k) mL base2) (hb : w0.heap.size ≤ base2) => (by
              have := lnextE HS.out K HRM.out (by omega) HOKk.out (HWF.out k hlt) hl (by omega) (fun i a => by have := lkT_len E i a k; omega) (fun h6 hs => by rw [(lkT_eq E k).1, (lkT_eq E k).2.1, lk_r0, lk_r1, natL_length, natL_length]; exact ok_take HOKk.out h6 hs) hb
              rwa [← HEK.out] at this : Calls Try.prog 70 #[.pointer (some ⟨p, 0, none⟩), .int .i64 (k : Int), .agg (evC ⟨(wn : Int), op, a, v, sh⟩)] u (LNextE u F (.slice R S.nr d) p mb (lkT E k) mL base2 (rmS S) k ⟨(wn : Int), op, a, v, sh⟩)))
            have HIL := Lib.hid (fun x (hx : x ∈ intoL E (rmS S) k) => intoL_lt HOKk.out hx)
            have HLL := Lib.hid (intoL_length (rm := rmS S) HOKk.out)
            have HFA := Lib.hid (fold_all (r := r) (rm := rmS S) HOKk.out HQE.out)
            obtain ⟨xsI, hxI⟩ : ∃ l, l = intoL E (rmS S) k := ⟨_, rfl⟩
            obtain ⟨nI, hnI⟩ : ∃ n, n = xsI.length := ⟨_, rfl⟩
            rw [← hxI] at HIN HIL HLL HFA
            have HXI := Lib.hid hxI
            have HNI := Lib.hid hnI
            have hnI6 : nI ≤ 40000 := by have := HLL.out; omega
            clear hxI hnI o8 o9 o10 o11
            go_wp2_with (first
              | (refine own_load 53 0 T.own rfl rfl rfl rfl rfl Try.underlying37 rfl (by kernel_rfl) ?_; simp only [Act.put, List.setIfInBounds_toArray, List.set_cons_zero, List.set_cons_succ])
              | (go_at_call 70; obtain ⟨fL, hl⟩ := T.la; refine (HNX.out _ T.own.keep F fL hl T.bs.2).mono ?_; rintro x W5 ⟨rr, F2, f2, rfl, hQ, LA, hnew, _, K⟩; rw [HIN.out] at hQ; rw [HLQ.out] at LA; obtain ⟨Av, cv, hvv, _⟩ := hQ.listL.1; rw [← HNI.out] at hvv; subst hvv; have hnw : nb wn < W2.heap.size := (by obtain ⟨f, ht⟩ := T.tk; exact (ht.rows wn hwr).lt); have T2 := T.link (HI.out k) K LA hnew; clear T; have T := T2; clear T2 LA K hl fL hnew))
            generalize hbh : W2.heap.size = bh at hQ hnw
            have HBH := Lib.hid hnw
            clear hbh hnw q8 q9 q10 q11 c15 cN
            have T := T.same (nc' := updN (nowN E (rmS S) k) wn (foldC E (rmS S) r k 0)) (kc' := tkC E (rmS S) r k) (fun i hi j hj => by by_cases e : i = wn; (· (subst e; simp only [updN, if_true]; rw [fold_zero, ← HEK.out]; rfl)); (· (simp only [updN, if_neg e]))) (fun i hi => rfl)
            go_loopg [56] nI (fun g s56 wr => ∃ q', q' ≤ nI ∧ g = nI - q' ∧ s56 = .int .i64 (q' : Int) ∧ TS w0 wr [(b15, 37, evC ⟨(wn : Int), op, a, v, sh⟩), (b4, 27, sysV S A c R d)] (Inv k) w.heap.size r gN nb mt X D F2 (updN (nowN E (rmS S) k) wn (foldC E (rmS S) r k q')) (tkC E (rmS S) r k) q (.slice R S.nr d) p mb (lkT E (k + 1)) (mL + 2) base2 ∧ HRow bh wr (.slice Av nI cv) xsI)
            case atStart => exact ⟨0, by omega, by omega, rfl, T, hQ⟩
            case round =>
              clear T hQ
              obtain ⟨q', hq', hgq, rfl, T, hQ⟩ := hrel
              have HG2 := Lib.hid hgq
              clear hgq
              by_cases hqt : q' < nI
              · have g4 : (q' : Int) < nI := by omega
                have g5 : (0 : Int) ≤ q' := by omega
                have HQL := Lib.hid (show q' < xsI.length by rw [← HNI.out]; exact hqt)
                obtain ⟨A', c', e', hx⟩ := hQ.listL.1
                obtain ⟨ad', e1, _, hc⟩ := hx (by have := HQL.out; omega)
                have e2 : Av = some ad' := by rw [← e1]; injection e'
                subst e2
                clear e1 e'
                have cq := hc q' HQL.out
                have hxm : xsI.getD q' 0 ∈ xsI := by rw [List.getD_eq_getElem?_getD, List.getElem?_eq_getElem HQL.out]; exact List.getElem_mem _
                have hx0 := HIL.out _ hxm
                have HWX := Lib.hid (wf_small (n := xsI.getD q' 0) (by omega) (by omega))
                have HFS := Lib.hid (fold_succ (E := E) (rm := rmS S) (r := r) (j := k) (q := q') (by rw [← HXI.out]; exact HQL.out))
                rw [← HXI.out] at HFS
                clear hx hc hxm
                generalize xsI.getD q' 0 = x at cq HWX HFS hx0
                obtain ⟨f, ht⟩ := T.tk
                obtain ⟨A1, q1, e1, _⟩ := (ht.kept 0 (by decide) (x)).shape
                have hR := ht.kept 0 (by decide) (x)
                obtain ⟨xs, hxs⟩ : ∃ xs, xs = tkC E (rmS S) r k 0 (x) := ⟨_, rfl⟩
                obtain ⟨n1, hn1⟩ : ∃ n, n = xs.length := ⟨_, rfl⟩
                have HXL := Lib.hid (show xs.length ≤ r by rw [hxs]; rcases tkC_len E (rmS S) r k 0 (x) with h | h <;> rw [h] <;> simp)
                rw [← hxs, ← hn1] at e1
                rw [← hxs] at hR
                have HNB := Lib.hid (show ∀ g, (Value.slice A1 n1 q1).ownBlock = some g → nb wn ≠ g from fun g hg => ht.nbk 0 (by decide) (x) g (by rw [e1]; exact hg) wn hwr)
                rw [e1] at hR
                have lk : (Instr.lookup 159 (.map (some (mt 0))) (.int .i64 (x)) false).run Try.prog wr = .ok (.slice A1 n1 q1) wr := by
                  have := look_eqV (ht.maps 0 (by decide)) 159 25 (.slice none 0 0) Try.underlying159 (zero25 _) (x) HWX.out
                  rwa [show (f 0 (x)).getD (.slice none 0 0) = .slice A1 n1 q1 from e1] at this
                have HXS := Lib.hid hxs
                clear e1 hxs hn1 ht f
                rw [← HXS.out] at HFS
                clear hx0
                go_wp2_with (first
                  | (refine own_litS 64 (.slice A1 n1 q1) T.own rfl rfl rfl rfl rfl ?_; clear lk; intro W3 gl O K hgl; replace T := T.add (HI.out k) K O hgl; replace hR := hR.keeps K (by simp); replace hQ := hQ.keeps K (by simp); clear cq; clear O K hgl; simp only [Act.put, List.setIfInBounds_toArray, List.set_cons_zero, List.set_cons_succ])
                  | (go_at_call 99; obtain ⟨f3, ht3⟩ := T.tk; obtain ⟨cur, hBv, hcv⟩ := ht3.rows wn hwr; refine (joined_any hBv hcv (T.own.get 0 rfl) (by have := hR.listL.1; exact this) (HXL.out) hr2 (fun ad n q hv hn => ?_)).mono ?_; (· (exact fun e => HNB.out ad.block (by rw [hv]; rfl) e.symm)); rintro e W4 ⟨rfl, ⟨cu2, hB2, hs2, hc2⟩, K⟩; replace hQ := hQ.keeps K (fun g hg hm => by have h1 := (hQ.own hg).1; have h2 := HBH.out; rw [List.mem_singleton.1 hm] at h1; omega); have T2 := (T.tick (HI.out k) (K.wide (L' := X) (fun b hb => by rw [List.mem_singleton.1 hb]; exact ht3.nX wn hwr)) (ht3.setNow hwr K ⟨cu2, hB2, hc2⟩) (fun b hb => .inl hb)).drop_ 1; clear T; have T := T2; clear T2 ht3 f3 hBv hcv hB2 hs2 hc2 K))
                have T := T.same (nc' := updN (nowN E (rmS S) k) wn (foldC E (rmS S) r k (q' + 1))) (kc' := tkC E (rmS S) r k) (fun i hi j hj => by by_cases e : i = wn; (· (subst e; simp only [updN, if_true]; exact HFS.out j hj)); (· (simp only [updN, if_neg e]))) (fun i hi => rfl)
                go_roundg (nI - (q' + 1))
                case measure => (have := HG2.out; omega)
                case rel => exact ⟨q' + 1, by omega, rfl, by go_num, T, hQ⟩
              · obtain rfl : nI = q' := by omega
                have T := T.same (nc' := updN (nowN E (rmS S) k) wn (mxC E (rmS S) (intoL E (rmS S) k))) (kc' := tkC E (rmS S) r k) (fun i hi j hj => by by_cases e : i = wn; (· (subst e; simp only [updN, if_true]; have := HFA.out j hj; rw [← HNI.out, HXI.out] at this; exact this)); (· (simp only [updN, if_neg e]))) (fun i hi => rfl)
                go_wp2
                go_meet
                exact ⟨_, T⟩
          case rest =>
            obtain ⟨F2, T⟩ := hcut
            obtain ⟨f, ht⟩ := T.tk
            obtain ⟨cur, hBw, hcw⟩ := ht.rows wn hwr
            obtain ⟨mx, hmx⟩ : ∃ mx, mx = mxC E (rmS S) (intoL E (rmS S) k) (wn : Int) := ⟨_, rfl⟩
            have hck := clk_eq (rm := rmS S) HOKk.out (wn : Int)
            have hcu := clk_up (rm := rmS S) HOKk.out
            rw [if_pos (by rw [← HEK.out]), show maxL ((intoL E (rmS S) k).map fun x => clk E (rmS S) x (wn : Int)) = mx from hmx.symm] at hck
            rw [← HEK.out] at hcu
            simp only at hcu
            rw [← hmx] at hcu
            have hmx1 : 0 ≤ mx ∧ mx ≤ 40000 := by
              have h1 := clk_le (E := E) (rm := rmS S) (wn : Int) k
              have h2 : 0 ≤ mx := by rw [hmx]; exact maxL_nonneg _
              omega
            have cw : wc.cell? ⟨nb wn, wn, none⟩ = some (.int .i64 mx) := by
              rw [hBw.cell, hcw.2 wn hwr]
              simp only [updN, if_true]
              rw [← hmx]
            have HCS := Lib.hid (hcw.set wn (mx + 1) hwr)
            have HCU := Lib.hid hcu
            have hsz : wn < cur.size := by have := hcw.1; omega
            have r1 : IntKind.i64.wrap (mx + 1) = mx + 1 := IntWalk.i64_in _ (by omega)
            have HNX := ht.nX wn hwr
            have HNC := Lib.hid (show updN (nowN E (rmS S) k) wn (clk E (rmS S) k) wn = clk E (rmS S) k by simp [updN])
            have HKL := Lib.hid (fun i a (hi : i < 3) => (show (tkC E (rmS S) r k i a).length ≤ r from by rcases tkC_len E (rmS S) r k i a with h | h <;> rw [h] <;> simp))
            have HWA := Lib.hid (by have := HWF.out k hlt; rwa [← HEK.out] at this : (Lit.int .i64 a).wf = true)
            have HOKA := Lib.hid (show OkAll S E (k + 1) from fun i hi => HOK.out i (by omega))
            have H14 := Lib.hid (show (⟨(wn : Int), op, a, v, sh⟩ : Ev).op = 14 → 0 < (⟨(wn : Int), op, a, v, sh⟩ : Ev).v → ∃ vN : Nat, (⟨(wn : Int), op, a, v, sh⟩ : Ev).v = (vN : Int) ∧ vN < r ∧ vN ≠ wn from fun h14 hv => by
              have h1 := ok_start HOKk.out (by rw [← HEK.out]; exact h14)
              have h2 := (ok_head HOKk.out).2.1
              have h3 := stN_r_mono E (show k + 1 ≤ m by omega)
              have h4 : (stN E (k + 1)).r = (stN E k).r + 1 := by
                show (nextE (stN E k) (E k)).r = _
                unfold nextE
                rw [← HEK.out, if_pos h14, if_neg (by omega)]
              have h5 := HR.out
              rw [← HEK.out] at h1 h2
              simp only at h1 h2 hv ⊢
              exact ⟨v.toNat, by omega, by omega, by omega⟩)
            have HCk := Lib.hid (fun u D g => HC.out k hlt u D g)
            clear hmx hck hcu hmx1 hcw
            have c15 : ∀ i : Nat, wc.cell? ⟨b15, i, none⟩ = #[Value.int .i64 (wn : Int), .int .i64 op, .int .i64 a, .int .i64 v, .bool sh][i]? := (T.own.get 0 rfl).cell
            cases hcc : cont k with
            | true =>
              rw [hcc] at HCk
              have HCC := Lib.hid hcc
              clear hcc
              go_wp2_with (first
                | (refine wpList_store_blk (nb wn) wn 3 cur (.int .i64 (mx + 1)) rfl rfl rfl rfl rfl hBw hsz rfl rfl (by kernel_rfl) ?_; intro u K B; have T2 := (T.tick (HI.out k) (K.wide (L' := X) (fun b hb => by rw [List.mem_singleton.1 hb]; exact HNX)) (ht.setNow hwr K ⟨_, B, HCS.out⟩) (fun b hb => .inl hb)).same (nc' := updN (nowN E (rmS S) k) wn (clk E (rmS S) k)) (kc' := tkC E (rmS S) r k) (fun i hi j hj => by by_cases e : i = wn; (· (subst e; simp only [updN, if_true]; exact congrFun HCU.out _)); (· (simp only [updN, if_neg e]))) (fun i hi => rfl); clear T ht hBw cw c15 K B r1; have T := T2; clear T2)
                | (refine own_load 107 0 T.own rfl rfl rfl rfl rfl Try.underlying37 rfl (by kernel_rfl) ?_; simp only [Act.put, List.setIfInBounds_toArray, List.set_cons_zero, List.set_cons_succ])
                | (go_at_call 100; obtain ⟨f2, ht2⟩ := T.tk; refine (note_any ⟨(wn : Int), op, a, v, sh⟩ ht2 hwr HNC.out hr2 (by omega) HKL.out HWA.out (by omega) H14.out).mono ?_; rintro e W6 ⟨rfl, ⟨f6, X6, hT6, hX6⟩, K⟩; have T2 := (T.tick (HI.out k) K hT6 hX6).same (nc' := nowN E (rmS S) (k + 1)) (kc' := tkC E (rmS S) r (k + 1)) (by rw [HEK.out]; exact note_now HOKA.out HWN.out (fun i hi hi2 c hc => by simp only [updN, if_neg hi]) (fun c hc => by simp only [updN, if_true])) (by rw [HEK.out]; exact note_kc); clear T ht2 hT6 hX6 K; have T := T2; clear T2)
                | (have hself : ClkAt _ (nb wn) r (clk E (rmS S) k) := (by obtain ⟨f2, ht2⟩ := T.tk; have := ht2.rows wn hwr; unfold nowN at this; rw [← HWN.out, now_self] at this; exact this); have hnd : nb wn ∉ D := (fun hm => T.dX _ hm (by obtain ⟨f2, ht2⟩ := T.tk; exact ht2.nX wn hwr)); refine wpList_call_fn (.int .i64 (k : Int)) (.slice (some ⟨nb wn, 0, none⟩) r r) rfl rfl rfl rfl rfl HFN.out ?_; refine (HCk.out _ D (nb wn) T.iv hnd hself).mono ?_; rintro e W7 ⟨rfl, ⟨D', hv', hD', hlt'⟩, K⟩; refine ⟨_, rfl, ?_⟩; simp only [Act.put, List.setIfInBounds_toArray, List.set_cons_zero, List.set_cons_succ]; have T2 := T.client K hv' hD' hlt'; clear T hself hnd hv' hD' hlt' K; have T := T2; clear T2))
              go_roundg (m - (k + 1))
              case measure => (have := HG.out; omega)
              case rel => exact ⟨k + 1, _, _, _, _, _, by omega, rfl, by go_num, T.drop_ 1, by omega, by omega, fun i hi => by
                by_cases e : i = k
                · rw [e]; exact HCC.out
                · exact HCT.out i (by omega)⟩
            | false =>
              rw [hcc] at HCk
              have HCC := Lib.hid hcc
              clear hcc
              go_wp2_with (first
                | (refine wpList_store_blk (nb wn) wn 3 cur (.int .i64 (mx + 1)) rfl rfl rfl rfl rfl hBw hsz rfl rfl (by kernel_rfl) ?_; intro u K B; have T2 := (T.tick (HI.out k) (K.wide (L' := X) (fun b hb => by rw [List.mem_singleton.1 hb]; exact HNX)) (ht.setNow hwr K ⟨_, B, HCS.out⟩) (fun b hb => .inl hb)).same (nc' := updN (nowN E (rmS S) k) wn (clk E (rmS S) k)) (kc' := tkC E (rmS S) r k) (fun i hi j hj => by by_cases e : i = wn; (· (subst e; simp only [updN, if_true]; exact congrFun HCU.out _)); (· (simp only [updN, if_neg e]))) (fun i hi => rfl); clear T ht hBw cw c15 K B r1; have T := T2; clear T2)
                | (refine own_load 107 0 T.own rfl rfl rfl rfl rfl Try.underlying37 rfl (by kernel_rfl) ?_; simp only [Act.put, List.setIfInBounds_toArray, List.set_cons_zero, List.set_cons_succ])
                | (go_at_call 100; obtain ⟨f2, ht2⟩ := T.tk; refine (note_any ⟨(wn : Int), op, a, v, sh⟩ ht2 hwr HNC.out hr2 (by omega) HKL.out HWA.out (by omega) H14.out).mono ?_; rintro e W6 ⟨rfl, ⟨f6, X6, hT6, hX6⟩, K⟩; have T2 := (T.tick (HI.out k) K hT6 hX6).same (nc' := nowN E (rmS S) (k + 1)) (kc' := tkC E (rmS S) r (k + 1)) (by rw [HEK.out]; exact note_now HOKA.out HWN.out (fun i hi hi2 c hc => by simp only [updN, if_neg hi]) (fun c hc => by simp only [updN, if_true])) (by rw [HEK.out]; exact note_kc); clear T ht2 hT6 hX6 K; have T := T2; clear T2)
                | (have hself : ClkAt _ (nb wn) r (clk E (rmS S) k) := (by obtain ⟨f2, ht2⟩ := T.tk; have := ht2.rows wn hwr; unfold nowN at this; rw [← HWN.out, now_self] at this; exact this); have hnd : nb wn ∉ D := (fun hm => T.dX _ hm (by obtain ⟨f2, ht2⟩ := T.tk; exact ht2.nX wn hwr)); refine wpList_call_fn (.int .i64 (k : Int)) (.slice (some ⟨nb wn, 0, none⟩) r r) rfl rfl rfl rfl rfl HFN.out ?_; refine (HCk.out _ D (nb wn) T.iv hnd hself).mono ?_; rintro e W7 ⟨rfl, ⟨D', hv', hD', hlt'⟩, K⟩; refine ⟨_, rfl, ?_⟩; simp only [Act.put, List.setIfInBounds_toArray, List.set_cons_zero, List.set_cons_succ]; have T2 := T.client K hv' hD' hlt'; clear T hself hnd hv' hD' hlt' K; have T := T2; clear T2))
              go_returns
              exact ⟨rfl, T.own.keep, k + 1, _, T.iv, .inr ⟨k, rfl, hlt, HCC.out, HCT.out⟩⟩
        · obtain rfl : m = k := by omega
          go_wp2
          go_returns
          exact ⟨rfl, T.own.keep, m, D, T.iv, .inl ⟨rfl, HCT.out⟩⟩
end
end Go.Proofs.Ytakmcpadkanggaa
namespace Go.Proofs.Ytakmcpadkanggaa
open Go.RowKit Go.Maps Go.Deep
theorem fn75 : FnOk 75 := fun args w => by go_simp
end Go.Proofs.Ytakmcpadkanggaa
namespace Go.Proofs.Ytakmcpadkanggaa
open Go.RowKit Go.Maps Go.Deep
theorem own_at {w W : World} {L : List Ent} {g : Nat} {t : TypeId} {cs : Array Value} (h : Own w W [] L) (k : Nat) (hk : L[k]? = some (g, t, cs)) : w.heap.size ≤ g ∧ g < W.heap.size :=
  ⟨Nat.le_of_not_lt fun hl => absurd (h.new _ (List.mem_of_getElem? hk) hl) (by simp), h.lt k hk⟩
end Go.Proofs.Ytakmcpadkanggaa
namespace Go.Proofs.Ytakmcpadkanggaa
open Go.RowKit Go.Maps Go.Deep
section
variable {w W W' : World} {L : List Ent}
theorem updN_same {α : Type} (f : Nat → α) (i : Nat) (x : α) : updN f i x i = x := by simp [updN]
theorem updN_other {α : Type} (f : Nat → α) (i j : Nat) (x : α) (h : j ≠ i) : updN f i x j = f j := by simp [updN, h]
end
end Go.Proofs.Ytakmcpadkanggaa
namespace Go.Proofs.Ytakmcpadkanggaa
open Go.RowKit Go.Maps Go.Deep
theorem rowT68 : RowT 68 25 1 24 (.slice none 0 0) := by
  have h : (Try.prog.info? 25).map (fun i => (i.zero, i.size, i.bytes)) = some (some (.slice none 0 0), 1, 24) := by kernel_rfl
  obtain ⟨i, hi, he⟩ := Option.map_eq_some_iff.1 h
  simp only [Prod.mk.injEq] at he
  exact ⟨Try.underlying68, ⟨i, hi, he.1, he.2.1, he.2.2⟩, rfl, by decide⟩
def gridL (n r : Nat) (nb cp : Nat → Nat) : List Value := (List.range n).map fun i => .slice (some ⟨nb i, 0, none⟩) r (cp i)
theorem gridL_get {n r : Nat} {nb cp : Nat → Nat} {i : Nat} (h : i < n) : (gridL n r nb cp)[i]? = some (.slice (some ⟨nb i, 0, none⟩) r (cp i)) := by simp [gridL, h]
theorem gridL_succ (n r : Nat) (nb cp : Nat → Nat) (g c : Nat) : gridL (n + 1) r (updN nb n g) (updN cp n c) = gridL n r nb cp ++ [.slice (some ⟨g, 0, none⟩) r c] := by
  unfold gridL
  rw [List.range_succ, List.map_append]
  congr 1
  · exact List.map_congr_left fun i hi => by
      have := List.mem_range.1 hi
      rw [updN_other _ _ _ _ (by omega), updN_other _ _ _ _ (by omega)]
  · simp [updN_same]
/-- n rows of r numbers, each in a block of its own. -/
structure GridAt (base : Nat) (W : World) (v : Value) (n r : Nat) (nb cp : Nat → Nat) (F : Nat → Int → Int) : Prop where
  row : W.ownsRow base 25 1 v n (gridL n r nb cp)
  cl : ∀ i, i < n → base ≤ nb i ∧ r ≤ cp i ∧ cp i ≤ maxLen ∧ ∃ cu, Blk W (nb i) 3 cu ∧ cu.size = cp i ∧ CurI cu r (F i)
  ne : ∀ i j, i < n → j < n → i ≠ j → nb i ≠ nb j
section
variable {base n r : Nat} {W u : World} {v v' : Value} {nb cp : Nat → Nat} {F : Nat → Int → Int} {S : List Nat}
theorem GridAt.nil (base r : Nat) (W : World) (nb cp : Nat → Nat) (F : Nat → Int → Int) : GridAt base W (.slice none 0 0) 0 r nb cp F := ⟨gr_nil base 25 1 W, fun i hi => by omega, fun i j hi => by omega⟩
theorem GridAt.keeps (G : GridAt base W v n r nb cp F) (K : Keeps W u S) (h1 : ∀ g, v.ownBlock = some g → g ∉ S) (h2 : ∀ i, i < n → nb i ∉ S) : GridAt base u v n r nb cp F :=
  ⟨gr_keeps G.row K h1, fun i hi => by
    obtain ⟨a, b, c, cu, hB, hs, hc⟩ := G.cl i hi
    exact ⟨a, b, c, cu, hB.keeps K (h2 i hi), hs, hc⟩, G.ne⟩
theorem GridAt.new (G : GridAt base W v n r nb cp F) (K : Keeps W u []) : GridAt base u v n r nb cp F := G.keeps K (by simp) (by simp)
theorem GridAt.lt (G : GridAt base W v n r nb cp F) {i : Nat} (hi : i < n) : nb i < W.heap.size := by
  obtain ⟨_, _, _, cu, hB, _⟩ := G.cl i hi
  exact hB.lt
theorem GridAt.vne (G : GridAt base W v n r nb cp F) {i : Nat} (hi : i < n) : nb i ∉ v.ownBlock.toList := fun hm => by
  obtain ⟨_, _, _, cu, hB, _⟩ := G.cl i hi
  exact gr_ne G.row hB (by decide) (by simpa using hm)
theorem GridAt.same {F' : Nat → Int → Int} (G : GridAt base W v n r nb cp F) (h : ∀ i, i < n → ∀ j : Nat, j < r → F i j = F' i j) : GridAt base W v n r nb cp F' :=
  ⟨G.row, fun i hi => by
    obtain ⟨a, b, c, cu, hB, hs, hc⟩ := G.cl i hi
    exact ⟨a, b, c, cu, hB, hs, hc.same (h i hi)⟩, G.ne⟩
/-- One row more. -/
theorem GridAt.add (G : GridAt base W v n r nb cp F) {g c : Nat} {cu : Array Value} (hg : Blk W g 3 cu) (hb : base ≤ g) (hc : r ≤ c) (hm : c ≤ maxLen) (hs : cu.size = c) (hcu : CurI cu r (F n)) (hfr : ∀ i, i < n → nb i ≠ g) (K : Keeps W u v.ownBlock.toList)
    (M : u.ownsRow base 25 1 v' (n + 1) (gridL n r nb cp ++ [.slice (some ⟨g, 0, none⟩) r c])) : GridAt base u v' (n + 1) r (updN nb n g) (updN cp n c) F := by
  refine ⟨by rw [gridL_succ]; exact M, fun i hi => ?_, fun i j hi hj hij => ?_⟩
  · by_cases e : i = n
    · subst e
      rw [updN_same, updN_same]
      exact ⟨hb, hc, hm, cu, hg.keeps K (fun hm => gr_ne G.row hg (by decide) (by simpa using hm)), hs, hcu⟩
    · rw [updN_other _ _ _ _ e, updN_other _ _ _ _ e]
      obtain ⟨a, b, c', cu', hB, hs', hc'⟩ := G.cl i (by omega)
      exact ⟨a, b, c', cu', hB.keeps K (G.vne (by omega)), hs', hc'⟩
  · by_cases e : i = n
    · subst e
      rw [updN_same, updN_other _ _ _ _ (fun e => hij e.symm)]
      exact fun e => hfr j (by omega) e.symm
    · rw [updN_other _ _ _ _ e]
      by_cases e2 : j = n
      · subst e2
        rw [updN_same]
        exact hfr i (by omega)
      · rw [updN_other _ _ _ _ e2]
        exact G.ne i j (by omega) (by omega) hij
end
end Go.Proofs.Ytakmcpadkanggaa
namespace Go.Proofs.Ytakmcpadkanggaa
open Go.RowKit Go.Maps Go.Deep
section
variable {base n r cb : Nat} {W : World} {v : Value} {nb cp : Nat → Nat} {F : Nat → Int → Int} {av : Addr} {cv : Nat} {E : Nat → Ev} {B : Option Addr}
theorem grd_row (G : GridAt base W v n r nb cp F) (hv : v = .slice (some av) n cv) {i : Nat} (hi : i < n) : W.cell? (av.add i) = some (.slice (some ⟨nb i, 0, none⟩) r (cp i)) :=
  (gr_cell G.row hv (gridL_get hi)).2
theorem grd_at (G : GridAt base W v n r nb cp F) {i k : Nat} (hi : i < n) (hk : k < r) : W.cell? ⟨nb i, k, none⟩ = some (.int .i64 (F i (k : Int))) := by
  obtain ⟨_, _, _, cu, hB, _, hc⟩ := G.cl i hi
  exact (hB.cell k).trans (hc.2 k hk)
set_option maxRecDepth 100000 in
set_option maxHeartbeats 1000000 in
theorem ordered_any (G : GridAt base W (.slice (some av) n cv) n r nb cp F) (hE : EvsAt W B n E) {i j wi : Nat} (hi : i < n) (hj : j < n) (hw : (E i).who = (wi : Int)) (hwr : wi < r) (hr : r ≤ 1000000) (hn : n ≤ 40000) :
    Calls Try.prog 77 #[.slice (some av) n cv, .slice B n cb, .int .i64 (i : Int), .int .i64 (j : Int)] W fun e u => e = .returned (.bool (decide (F i (wi : Int) ≤ F j (wi : Int)))) ∧ Keeps W u [] := by
  obtain ⟨ad, rfl, _, hc⟩ := hE (by omega)
  have cE : W.cell? (ad.add (i * 5)) = some (.int .i64 (wi : Int)) := by
    have := hc i 0 hi (by decide)
    rw [← hw]
    simpa [Addr.add_add, evC] using this
  have cI := grd_row G rfl hi
  have cJ := grd_row G rfl hj
  have cIW := grd_at G hi hwr
  have cJW := grd_at G hj hwr
  have g1 : (i : Int) < n := by omega
  have g2 : (j : Int) < n := by omega
  have g3 : (0 : Int) ≤ i := by omega
  have g4 : (0 : Int) ≤ j := by omega
  have g5 : (wi : Int) < r := by omega
  have g6 : (0 : Int) ≤ wi := by omega
  generalize F i (wi : Int) = xi at cIW ⊢
  generalize F j (wi : Int) = xj at cJW ⊢
  have HK := Lib.hid (Keeps.refl W [])
  clear G hc hE hi hj hw hwr
  go_enter Try.func77, Try.ntmps77
  go_wp2
  go_quiet (fail)
  clear cE cI cJ cIW cJW
  generalize hW : World.drewN W _ = W2
  have K2 : Keeps W W2 [] := by rw [← hW]; exact HK.out.drewN _
  clear hW
  go_wp2
  go_ret
  exact ⟨rfl, K2⟩
end
end Go.Proofs.Ytakmcpadkanggaa
namespace Go.Proofs.Ytakmcpadkanggaa
open Go.RowKit Go.Maps Go.Deep
def insB (n : Nat) (i : Int) : Bool := decide (0 ≤ i) && decide (i < n)
def askedR (S : Sys) (E : Nat → Ev) (n : Nat) (xs : List Int) : Int × Int := if (thr S E n).2.2 = 0 then (if xs.all (insB n) then ((thr S E n).1, 0) else (0, 1)) else (0, (thr S E n).2.2)
def askV (r : Int × Int) : Value := .tuple #[.int .i64 r.1, .int .i64 r.2]
section
variable {w : World} {S : Sys} {A : Option Addr} {c : Nat} {R : Option Addr} {d n : Nat} {E : Nat → Ev} {B : Option Addr} {cb : Nat}
set_option maxRecDepth 100000 in
theorem asked_any (hS : SysIn w S A c R d) (hE : EvsAt w B n E) (hwf : ∀ i, i < n → (Lit.int .i64 (E i).a).wf = true) (v : Value) (xs : List Int) (hx : IntL w v xs) (hl : xs.length ≤ 10) : Calls Try.prog 62 #[.agg (sysV S A c R d), .slice B n cb, v] w fun e w' => e = .returned (askV (askedR S E n xs)) ∧ Keeps w w' [] := by
  have O := Own.start w []
  obtain ⟨A', c', rfl, hx⟩ := hx
  have HT : ∀ u, Keeps w u [] → Hid (Calls Try.prog 60 #[.agg (sysV S A c R d), .slice B n cb] u fun e w' => e = .returned (.tuple #[.int .i64 (thr S E n).1, .int .i64 (thr S E n).2.1, .int .i64 (thr S E n).2.2]) ∧ Keeps u w' []) := fun u k => Lib.hid (through_any (hS.kept k) (hE.kept k) hwf)
  have HX := Lib.hid hx
  clear hx hS hE hwf
  generalize hm : xs.length = m at *
  by_cases h : (thr S E n).2.2 = 0
  · have HA := Lib.hid (show askedR S E n xs = if xs.all (insB n) then ((thr S E n).1, 0) else (0, 1) by simp [askedR, h])
    generalize askedR S E n xs = r at HA ⊢
    generalize thr S E n = x at *
    obtain ⟨x0, x1, x2⟩ := x
    simp only at *
    subst h
    have HMl := Lib.hid hm
    clear hm
    go_enter Try.func62, Try.ntmps62
    go_wp2_with (first
      | go_big_skip
      | (refine own_box 3 (sysV S A c R d) O rfl rfl rfl rfl ?_; clear O; intro W a3 O; simp only [Act.put, List.setIfInBounds_toArray, List.set_cons_zero, List.set_cons_succ])
      | (refine own_load 14 0 O rfl rfl rfl rfl rfl Try.underlying27 rfl (by kernel_rfl) ?_; simp only [Act.put, List.setIfInBounds_toArray, List.set_cons_zero, List.set_cons_succ])
      | (go_at_call 60; refine ((HT _ O.keep).out).mono ?_; rintro e W ⟨rfl, K⟩; replace O := O.keeps K; clear K))
    go_loopw [25] (fun i wr => ∃ k : Nat, k ≤ m ∧ i = .int .i64 k ∧ Keeps w wr [] ∧ ∀ j, j < k → insB n (xs.getD j 0) = true) (fun i _ => m - (intOf i).toNat)
    case atStart => exact ⟨0, by omega, rfl, O.keep, fun j hj => by omega⟩
    case round =>
      obtain ⟨k, hk, rfl, K, hmk⟩ := hrel
      have HK := Lib.hid hmk
      clear hmk O
      by_cases hlt : k < m
      · have g1 : ((k : Int)) < m := by omega
        have g0 : (0 : Int) ≤ k := by omega
        obtain ⟨ad, rfl, hb, hc⟩ := HX.out (by omega)
        have c1 : wr.cell? (ad.add k) = some (.int .i64 (xs.getD k 0)) := (K.cellAt (by rw [add_block]; exact hb) (by simp)).trans (hc k hlt)
        clear hc hb
        have HNo := Lib.hid (show insB n (xs.getD k 0) = false → r = (0, 1) from fun hb => by
          rw [HA.out, if_neg]
          intro hall
          have hmem : xs.getD k 0 ∈ xs := by
            have : k < xs.length := by have := HMl.out; omega
            simp [this]
          rw [List.all_eq_true.1 hall _ hmem] at hb
          cases hb)
        have HYes := Lib.hid (show insB n (xs.getD k 0) = true → ∀ j, j < k + 1 → insB n (xs.getD j 0) = true from fun hb j hj => if h : j = k then (by rw [h]; exact hb) else HK.out j (by omega))
        generalize xs.getD k 0 = y at c1 HNo HYes
        by_cases h0 : y < 0
        · have HF := Lib.hid (HNo.out (by simp [insB]; omega))
          go_wp2_with (first | go_big_skip)
          go_returns
          exact ⟨by rw [HF.out]; rfl, K⟩
        · by_cases h1 : (n : Int) ≤ y
          · have HF := Lib.hid (HNo.out (by simp [insB]; omega))
            go_wp2_with (first | go_big_skip)
            go_returns
            exact ⟨by rw [HF.out]; rfl, K⟩
          · have HG := Lib.hid (HYes.out (by simp [insB]; omega))
            go_wp2_with (first | go_big_skip)
            clear c1
            go_roundw
            case rel => exact ⟨k + 1, by omega, by go_num, K, HG.out⟩
            case measure => (simp [intOf] <;> omega)
      · obtain rfl : k = m := by omega
        have HF := Lib.hid (show r = (x0, 0) by
          rw [HA.out, if_pos]
          rw [List.all_eq_true]
          intro y hy
          obtain ⟨j, hj, rfl⟩ := List.getElem_of_mem hy
          have := HK.out j (by have := HMl.out; omega)
          simpa [hj] using this)
        go_wp2
        go_returns
        exact ⟨by rw [HF.out]; rfl, K⟩
  · have HF := Lib.hid (show askedR S E n xs = (0, (thr S E n).2.2) by simp [askedR, h])
    generalize askedR S E n xs = r at HF ⊢
    generalize thr S E n = x at *
    obtain ⟨x0, x1, x2⟩ := x
    simp only at *
    go_enter Try.func62, Try.ntmps62
    go_wp2_with (first
      | go_big_skip
      | (refine own_box 3 (sysV S A c R d) O rfl rfl rfl rfl ?_; clear O; intro W a3 O; simp only [Act.put, List.setIfInBounds_toArray, List.set_cons_zero, List.set_cons_succ])
      | (refine own_load 14 0 O rfl rfl rfl rfl rfl Try.underlying27 rfl (by kernel_rfl) ?_; simp only [Act.put, List.setIfInBounds_toArray, List.set_cons_zero, List.set_cons_succ])
      | (go_at_call 60; refine ((HT _ O.keep).out).mono ?_; rintro e W ⟨rfl, K⟩; replace O := O.keeps K; clear K))
    go_returns
    exact ⟨by rw [HF.out]; rfl, O.keep⟩
end
end Go.Proofs.Ytakmcpadkanggaa
namespace Go.Proofs.Ytakmcpadkanggaa
open Go.RowKit Go.Maps Go.Deep
theorem Blk.ne {W : World} {g g' t t' : Nat} {cs cs' : Array Value} (h : Blk W g t cs) (h' : Blk W g' t' cs') (ht : t ≠ t') : g ≠ g' := by
  rintro rfl
  rw [Blk, h] at h'
  injection h' with h'
  injection h' with _ h' _
  exact ht h'
section
variable {base : Nat} {W : World} {v : Value} {xs : List Int}
theorem Mint.off (h : Mint base W v xs) {g t : Nat} {cs : Array Value} (hB : Blk W g t cs) (ht : t ≠ 3) : g ∉ v.ownBlock.toList := by
  intro hm
  obtain ⟨_, _, cur, hcur⟩ := h.own (g := g) (by simpa using hm)
  exact hB.ne hcur ht rfl
theorem Mint.cell (h : Mint base W v xs) : v.cells = #[v] ∧ v.oneCell' = true := by
  rcases h.2 with ⟨rfl, _⟩ | ⟨g, cap, cur, rfl, _⟩
  · exact ⟨rfl, rfl⟩
  · exact ⟨rfl, rfl⟩
end
end Go.Proofs.Ytakmcpadkanggaa
namespace Go.Proofs.Ytakmcpadkanggaa
open Go.RowKit Go.Maps Go.Deep
section
variable {w : World} {S : Sys} {A : Option Addr} {c : Nat} {R : Option Addr} {d n : Nat} {E : Nat → Ev} {B : Option Addr} {cb : Nat}
theorem val_rooms {S : Sys} (h : validB S = true) : ∀ q, q < S.nr → 1 ≤ S.rm q ∧ S.rm q ≤ 1000000 := fun q hq => by
  have := ((validB_iff S).1 h).2.1 q hq
  simp [roomB] at this
  omega
theorem thr_r (h : (thr S E n).2.2 = 0) : (thr S E n).1 = (stN E n).r := by
  unfold thr at h ⊢
  cases hv : validB S with
  | false => rw [hv] at h; simp at h
  | true =>
    rw [hv] at h
    by_cases hn : 40000 < n
    · simp [hn] at h
    · rw [if_pos rfl, if_neg hn] at h
      cases hf : firstBad S E n with
      | some i => rw [hf] at h; simp at h
      | none => rw [if_pos rfl, if_neg hn]
end
end Go.Proofs.Ytakmcpadkanggaa
namespace Go.Proofs.Ytakmcpadkanggaa
open Go.RowKit Go.Maps Go.Deep
section
variable {w : World} {S : Sys} {A : Option Addr} {c : Nat} {R : Option Addr} {d n : Nat} {E : Nat → Ev} {B : Option Addr} {cb : Nat}
set_option maxRecDepth 100000 in
set_option maxHeartbeats 4000000 in
theorem into_6 (hS : SysIn w S A c R d) (hE : EvsAt w B n E) (hn : n ≤ 40000) (hrm : ∀ q, q < S.nr → 1 ≤ S.rm q ∧ S.rm q ≤ 1000000) (j : Nat) (hj : j < n) (hok : okE S (stN E j) (E j) = true) (hop : (E j).op = 6) : Calls Try.prog 71 #[.agg (sysV S A c R d), .slice B n cb, .int .i64 (j : Int)] w (IntoPost w S E j) := by
  have O := Own.start w []
  have HE := Lib.hid hE
  have g1 : ((j : Nat) : Int) < n := by omega
  have g0 : (0 : Int) ≤ j := by omega
  obtain ⟨ad, rfl, hc⟩ := EvsAt.row (u := w) HE.out hj
  have HC := Lib.hid hc
  obtain ⟨e, he⟩ : ∃ e, e = E j := ⟨_, rfl⟩
  rw [← he] at hc HC hop
  have HEJ := Lib.hid he
  have HRO := Lib.hid hS.rooms
  have HRM := Lib.hid hrm
  have HOK := Lib.hid hok
  clear hc hE he hS hrm hok
  obtain ⟨who, op, a, v, sh⟩ := e
  have HOP := Lib.hid hop
  clear hop
  go_enter Try.func71, Try.ntmps71
  go_wp2_with (first
    | go_big_skip
    | (refine own_box 3 (sysV S A c R d) O rfl rfl rfl rfl ?_; clear O; intro W a3 O; simp only [Act.put, List.setIfInBounds_toArray, List.set_cons_zero, List.set_cons_succ])
    | (refine wpList_load_at 21 rfl rfl rfl rfl (HC.out [] _ O.keep (by simp)) Try.underlying37 rfl (by kernel_rfl) ?_; simp only [Act.put, List.setIfInBounds_toArray, List.set_cons_zero, List.set_cons_succ])
    | (refine own_alloc 7 (evC ⟨0, 0, 0, 0, false⟩) O rfl rfl rfl (fun _ => by kernel_rfl) ?_; clear O; intro W g7 O; simp only [Act.put, List.setIfInBounds_toArray, List.set_cons_zero, List.set_cons_succ])
    | (refine own_store_row 0 (.tmp 7) (.tmp 21) O rfl rfl rfl rfl rfl rfl (by kernel_rfl) (by rfl) (evC_cell _) ?_; clear O; intro W O; simp only [List.set_cons_zero] at O))
  go_loopg [9, 10, 11, 12] j (fun g s9 s10 s11 s12 wr => ∃ k, k ≤ j ∧ g = j - k ∧ s12 = .int .i64 (k : Int) ∧ s9 = .int .i64 (oI (lastN E who k)) ∧ s10 = .int .i64 (oI (bornN E who k)) ∧ s11 = .int .i64 ((pickL (samE E ⟨who, op, a, v, sh⟩) k).length : Int) ∧ Own w wr [] (LI S A c R d g7 a3 ⟨who, op, a, v, sh⟩))
  case atStart => exact ⟨0, by omega, by omega, rfl, rfl, rfl, rfl, O⟩
  case round =>
    obtain ⟨k, hk, hgk, rfl, rfl, rfl, rfl, O⟩ := hrel
    have HG := Lib.hid hgk
    clear hgk
    by_cases hlt : k < j
    · have g2 : ((k : Int)) < j := by omega
      have g3 : ((k : Int)) < n := by omega
      have g4 : (0 : Int) ≤ k := by omega
      obtain ⟨ad', e', hc⟩ := EvsAt.row (u := w) HE.out (show k < n by omega)
      cases e'
      obtain ⟨f, hf⟩ : ∃ f, f = E k := ⟨_, rfl⟩
      rw [← hf] at hc
      have HCK := Lib.hid hc
      have HLN := Lib.hid (show lastN E who (k + 1) = if f.who = who then some (k : Int) else lastN E who k by rw [hf]; rfl)
      have HBN := Lib.hid (show bornN E who (k + 1) = if f.op = 14 ∧ 0 < f.v ∧ f.v = who then some (k : Int) else bornN E who k by rw [hf]; rfl)
      have HSM := Lib.hid (show samE E ⟨who, op, a, v, sh⟩ k = ((((op == 5) && (f.op == 5)) || ((op == 6) && (!sh && ((f.op == 6) && !f.sh)))) && (f.a == a)) by rw [hf]; rfl)
      have HPL := Lib.hid (show (pickL (samE E ⟨who, op, a, v, sh⟩) (k + 1)).length = (pickL (samE E ⟨who, op, a, v, sh⟩) k).length + if samE E ⟨who, op, a, v, sh⟩ k then 1 else 0 by rw [pickL_succ, List.length_append]; split <;> rfl)
      have hpl := pickL_length (samE E ⟨who, op, a, v, sh⟩) k
      generalize samE E ⟨who, op, a, v, sh⟩ k = sm at HSM HPL
      generalize hnk : (pickL (samE E ⟨who, op, a, v, sh⟩) k).length = nk at hpl HPL ⊢
      clear hf hc hnk
      obtain ⟨lw, lo, la, lv, ls⟩ := f
      have c0 : ∀ p : Later wr, p.1.cell? (ad.add (k * 5)) = some (.int .i64 lw) := fun p => HCK.out [] _ (O.keep.trans p.2 (by simp)) (by simp) 0 (by show 0 < 5; omega)
      have c1 : ∀ p : Later wr, p.1.cell? ⟨(ad.add (k * 5)).block, (ad.add (k * 5)).off + 1, none⟩ = some (.int .i64 lo) := fun p => HCK.out [] _ (O.keep.trans p.2 (by simp)) (by simp) 1 (by show 1 < 5; omega)
      have c2 : ∀ p : Later wr, p.1.cell? ⟨(ad.add (k * 5)).block, (ad.add (k * 5)).off + 2, none⟩ = some (.int .i64 la) := fun p => HCK.out [] _ (O.keep.trans p.2 (by simp)) (by simp) 2 (by show 2 < 5; omega)
      have c3 : ∀ p : Later wr, p.1.cell? ⟨(ad.add (k * 5)).block, (ad.add (k * 5)).off + 3, none⟩ = some (.int .i64 lv) := fun p => HCK.out [] _ (O.keep.trans p.2 (by simp)) (by simp) 3 (by show 3 < 5; omega)
      have c4 : ∀ p : Later wr, p.1.cell? ⟨(ad.add (k * 5)).block, (ad.add (k * 5)).off + 4, none⟩ = some (.bool ls) := fun p => HCK.out [] _ (O.keep.trans p.2 (by simp)) (by simp) 4 (by show 4 < 5; omega)
      have c7 : ∀ (p : Later wr) (i : Nat), p.1.cell? ⟨g7, i, none⟩ = #[Value.int .i64 who, .int .i64 op, .int .i64 a, .int .i64 v, .bool sh][i]? := Later.cell (O.get 0 rfl)
      go_upto_region 9 with (fail)
      refine wp_quiet_later (by kernel_rfl) (by kernel_rfl) ?_
      repeat (first
        | go_big_quiet_skip
        | go_big_quiet_step (fail))
      refine wpQuiet_nil ?_
      intro _ hw
      obtain ⟨p', rfl⟩ := hw
      replace O := O.keeps p'.2
      clear c0 c1 c2 c3 c4 c7
      generalize p'.1 = W at O ⊢
      go_upto_if 34 with (fail)
      go_cut [9] (fun s9 wx => s9 = .int .i64 (oI (lastN E who (k + 1))) ∧ Own w wx [] (LI S A c R d g7 a3 ⟨who, op, a, v, sh⟩))
      case first =>
        by_cases h : lw = who
        · have e1 : (lw == who) = true := by simpa using h
          have HN := Lib.hid (HLN.out.trans (if_pos h))
          clear h
          go_wp2
          go_meet
          exact ⟨by rw [HN.out]; rfl, O⟩
        · have e1 : (lw == who) = false := by simpa using h
          have HN := Lib.hid (HLN.out.trans (if_neg h))
          clear h
          go_wp2
          go_meet
          exact ⟨by rw [HN.out], O⟩
      case rest =>
        obtain ⟨rfl, O⟩ := hcut
        clear HLN
        have c0 : ∀ p : Later wc, p.1.cell? (ad.add (k * 5)) = some (.int .i64 lw) := fun p => HCK.out [] _ (O.keep.trans p.2 (by simp)) (by simp) 0 (by show 0 < 5; omega)
        have c1 : ∀ p : Later wc, p.1.cell? ⟨(ad.add (k * 5)).block, (ad.add (k * 5)).off + 1, none⟩ = some (.int .i64 lo) := fun p => HCK.out [] _ (O.keep.trans p.2 (by simp)) (by simp) 1 (by show 1 < 5; omega)
        have c2 : ∀ p : Later wc, p.1.cell? ⟨(ad.add (k * 5)).block, (ad.add (k * 5)).off + 2, none⟩ = some (.int .i64 la) := fun p => HCK.out [] _ (O.keep.trans p.2 (by simp)) (by simp) 2 (by show 2 < 5; omega)
        have c3 : ∀ p : Later wc, p.1.cell? ⟨(ad.add (k * 5)).block, (ad.add (k * 5)).off + 3, none⟩ = some (.int .i64 lv) := fun p => HCK.out [] _ (O.keep.trans p.2 (by simp)) (by simp) 3 (by show 3 < 5; omega)
        have c4 : ∀ p : Later wc, p.1.cell? ⟨(ad.add (k * 5)).block, (ad.add (k * 5)).off + 4, none⟩ = some (.bool ls) := fun p => HCK.out [] _ (O.keep.trans p.2 (by simp)) (by simp) 4 (by show 4 < 5; omega)
        have c7 : ∀ (p : Later wc) (i : Nat), p.1.cell? ⟨g7, i, none⟩ = #[Value.int .i64 who, .int .i64 op, .int .i64 a, .int .i64 v, .bool sh][i]? := Later.cell (O.get 0 rfl)
        obtain ⟨bB, hbB⟩ : ∃ bB, bB = decide (lo = 14 ∧ 0 < lv ∧ lv = who) := ⟨_, rfl⟩
        have HBB := Lib.hid hbB
        clear hbB
        go_upto_region 11 with (fail)
        go_cut [56] (fun s wx => s = .bool bB ∧ Own w wx [] (LI S A c R d g7 a3 ⟨who, op, a, v, sh⟩))
        case first =>
          by_cases h1 : lo = 14
          · have qh1 : (lo == 14) = true := by simpa using h1
            by_cases h2 : lv = who
            · have qh2 : (lv == who) = true := by simpa using h2
              by_cases h3 : 0 < who
              · have qh3 : decide (0 < who) = true := decide_eq_true h3
                have HV := Lib.hid (show bB = true by rw [HBB.out]; simp [qh1, h1, qh2, h2, qh3, h3])
                clear h1 h2 h3
                refine wp_quiet_later (by kernel_rfl) (by kernel_rfl) ?_
                repeat (first
                  | go_big_quiet_skip
                  | go_big_quiet_step (fail))
                refine wpQuiet_nil ?_
                intro _ hw
                obtain ⟨p', rfl⟩ := hw
                replace O := O.keeps p'.2
                clear c0 c1 c2 c3 c4 c7 qh1 qh2 qh3
                generalize p'.1 = W at O ⊢
                go_wp2
                go_meet
                exact ⟨by rw [HV.out], O⟩
              · have qh3 : decide (0 < who) = false := decide_eq_false h3
                have HV := Lib.hid (show bB = false by rw [HBB.out]; simp [qh1, h1, qh2, h2, qh3, h3])
                clear h1 h2 h3
                refine wp_quiet_later (by kernel_rfl) (by kernel_rfl) ?_
                repeat (first
                  | go_big_quiet_skip
                  | go_big_quiet_step (fail))
                refine wpQuiet_nil ?_
                intro _ hw
                obtain ⟨p', rfl⟩ := hw
                replace O := O.keeps p'.2
                clear c0 c1 c2 c3 c4 c7 qh1 qh2 qh3
                generalize p'.1 = W at O ⊢
                go_wp2
                go_meet
                exact ⟨by rw [HV.out], O⟩
            · have qh2 : (lv == who) = false := by simpa using h2
              have HV := Lib.hid (show bB = false by rw [HBB.out]; simp [qh1, h1, qh2, h2])
              clear h1 h2
              refine wp_quiet_later (by kernel_rfl) (by kernel_rfl) ?_
              repeat (first
                | go_big_quiet_skip
                | go_big_quiet_step (fail))
              refine wpQuiet_nil ?_
              intro _ hw
              obtain ⟨p', rfl⟩ := hw
              replace O := O.keeps p'.2
              clear c0 c1 c2 c3 c4 c7 qh1 qh2
              generalize p'.1 = W at O ⊢
              go_wp2
              go_meet
              exact ⟨by rw [HV.out], O⟩
          · have qh1 : (lo == 14) = false := by simpa using h1
            have HV := Lib.hid (show bB = false by rw [HBB.out]; simp [qh1, h1])
            clear h1
            refine wp_quiet_later (by kernel_rfl) (by kernel_rfl) ?_
            repeat (first
              | go_big_quiet_skip
              | go_big_quiet_step (fail))
            refine wpQuiet_nil ?_
            intro _ hw
            obtain ⟨p', rfl⟩ := hw
            replace O := O.keeps p'.2
            clear c0 c1 c2 c3 c4 c7 qh1
            generalize p'.1 = W at O ⊢
            go_wp2
            go_meet
            exact ⟨by rw [HV.out], O⟩
        case rest =>
          obtain ⟨rfl, O⟩ := hcut
          clear c0 c1 c2 c3 c4 c7
          go_upto_if 56 with (fail)
          go_cut [10] (fun s10 wx => s10 = .int .i64 (oI (bornN E who (k + 1))) ∧ Own w wx [] (LI S A c R d g7 a3 ⟨who, op, a, v, sh⟩))
          case first =>
            cases bB with
            | true =>
              have HN := Lib.hid (HBN.out.trans (if_pos (of_decide_eq_true HBB.out.symm)))
              go_wp2
              go_meet
              exact ⟨by rw [HN.out]; rfl, O⟩
            | false =>
              have HN := Lib.hid (HBN.out.trans (if_neg (of_decide_eq_false HBB.out.symm)))
              go_wp2
              go_meet
              exact ⟨by rw [HN.out], O⟩
          case rest =>
            obtain ⟨rfl, O⟩ := hcut
            clear HBN HBB
            have c0 : ∀ p : Later wc, p.1.cell? (ad.add (k * 5)) = some (.int .i64 lw) := fun p => HCK.out [] _ (O.keep.trans p.2 (by simp)) (by simp) 0 (by show 0 < 5; omega)
            have c1 : ∀ p : Later wc, p.1.cell? ⟨(ad.add (k * 5)).block, (ad.add (k * 5)).off + 1, none⟩ = some (.int .i64 lo) := fun p => HCK.out [] _ (O.keep.trans p.2 (by simp)) (by simp) 1 (by show 1 < 5; omega)
            have c2 : ∀ p : Later wc, p.1.cell? ⟨(ad.add (k * 5)).block, (ad.add (k * 5)).off + 2, none⟩ = some (.int .i64 la) := fun p => HCK.out [] _ (O.keep.trans p.2 (by simp)) (by simp) 2 (by show 2 < 5; omega)
            have c3 : ∀ p : Later wc, p.1.cell? ⟨(ad.add (k * 5)).block, (ad.add (k * 5)).off + 3, none⟩ = some (.int .i64 lv) := fun p => HCK.out [] _ (O.keep.trans p.2 (by simp)) (by simp) 3 (by show 3 < 5; omega)
            have c4 : ∀ p : Later wc, p.1.cell? ⟨(ad.add (k * 5)).block, (ad.add (k * 5)).off + 4, none⟩ = some (.bool ls) := fun p => HCK.out [] _ (O.keep.trans p.2 (by simp)) (by simp) 4 (by show 4 < 5; omega)
            have c7 : ∀ (p : Later wc) (i : Nat), p.1.cell? ⟨g7, i, none⟩ = #[Value.int .i64 who, .int .i64 op, .int .i64 a, .int .i64 v, .bool sh][i]? := Later.cell (O.get 0 rfl)
            go_upto_region 13 with (fail)
            go_cut [104] (fun s wx => s = .bool sm ∧ Own w wx [] (LI S A c R d g7 a3 ⟨who, op, a, v, sh⟩))
            case first =>
              have q1 : (op == 5) = false := by have h := HOP.out; simpa using (show ¬ op = 5 by omega)
              by_cases h3 : op = 6
              · have qh3 : (op == 6) = true := by simpa using h3
                rcases Bool.eq_false_or_eq_true sh with h4 | h4
                · rw [h4] at c7
                  have HV := Lib.hid (show sm = false by rw [HSM.out]; simp [q1, qh3, h3, h4])
                  clear h3 h4
                  refine wp_quiet_later (by kernel_rfl) (by kernel_rfl) ?_
                  repeat (first
                    | go_big_quiet_skip
                    | go_big_quiet_step (fail))
                  refine wpQuiet_nil ?_
                  intro _ hw
                  obtain ⟨p', rfl⟩ := hw
                  replace O := O.keeps p'.2
                  clear c0 c1 c2 c3 c4 c7 q1 qh3
                  generalize p'.1 = W at O ⊢
                  go_wp2
                  go_meet
                  exact ⟨by rw [HV.out], O⟩
                · rw [h4] at c7
                  by_cases h5 : lo = 6
                  · have qh5 : (lo == 6) = true := by simpa using h5
                    rcases Bool.eq_false_or_eq_true ls with h6 | h6
                    · rw [h6] at c4
                      have HV := Lib.hid (show sm = false by rw [HSM.out]; simp [q1, qh3, h3, h4, qh5, h5, h6])
                      clear h3 h4 h5 h6
                      refine wp_quiet_later (by kernel_rfl) (by kernel_rfl) ?_
                      repeat (first
                        | go_big_quiet_skip
                        | go_big_quiet_step (fail))
                      refine wpQuiet_nil ?_
                      intro _ hw
                      obtain ⟨p', rfl⟩ := hw
                      replace O := O.keeps p'.2
                      clear c0 c1 c2 c3 c4 c7 q1 qh3 qh5
                      generalize p'.1 = W at O ⊢
                      go_wp2
                      go_meet
                      exact ⟨by rw [HV.out], O⟩
                    · rw [h6] at c4
                      by_cases h7 : la = a
                      · have qh7 : (la == a) = true := by simpa using h7
                        have HV := Lib.hid (show sm = true by rw [HSM.out]; simp [q1, qh3, h3, h4, qh5, h5, h6, qh7, h7])
                        clear h3 h4 h5 h6 h7
                        refine wp_quiet_later (by kernel_rfl) (by kernel_rfl) ?_
                        repeat (first
                          | go_big_quiet_skip
                          | go_big_quiet_step (fail))
                        refine wpQuiet_nil ?_
                        intro _ hw
                        obtain ⟨p', rfl⟩ := hw
                        replace O := O.keeps p'.2
                        clear c0 c1 c2 c3 c4 c7 q1 qh3 qh5 qh7
                        generalize p'.1 = W at O ⊢
                        go_wp2
                        go_meet
                        exact ⟨by rw [HV.out], O⟩
                      · have qh7 : (la == a) = false := by simpa using h7
                        have HV := Lib.hid (show sm = false by rw [HSM.out]; simp [q1, qh3, h3, h4, qh5, h5, h6, qh7, h7])
                        clear h3 h4 h5 h6 h7
                        refine wp_quiet_later (by kernel_rfl) (by kernel_rfl) ?_
                        repeat (first
                          | go_big_quiet_skip
                          | go_big_quiet_step (fail))
                        refine wpQuiet_nil ?_
                        intro _ hw
                        obtain ⟨p', rfl⟩ := hw
                        replace O := O.keeps p'.2
                        clear c0 c1 c2 c3 c4 c7 q1 qh3 qh5 qh7
                        generalize p'.1 = W at O ⊢
                        go_wp2
                        go_meet
                        exact ⟨by rw [HV.out], O⟩
                  · have qh5 : (lo == 6) = false := by simpa using h5
                    have HV := Lib.hid (show sm = false by rw [HSM.out]; simp [q1, qh3, h3, h4, qh5, h5])
                    clear h3 h4 h5
                    refine wp_quiet_later (by kernel_rfl) (by kernel_rfl) ?_
                    repeat (first
                      | go_big_quiet_skip
                      | go_big_quiet_step (fail))
                    refine wpQuiet_nil ?_
                    intro _ hw
                    obtain ⟨p', rfl⟩ := hw
                    replace O := O.keeps p'.2
                    clear c0 c1 c2 c3 c4 c7 q1 qh3 qh5
                    generalize p'.1 = W at O ⊢
                    go_wp2
                    go_meet
                    exact ⟨by rw [HV.out], O⟩
              · have qh3 : (op == 6) = false := by simpa using h3
                have HV := Lib.hid (show sm = false by rw [HSM.out]; simp [q1, qh3, h3])
                clear h3
                refine wp_quiet_later (by kernel_rfl) (by kernel_rfl) ?_
                repeat (first
                  | go_big_quiet_skip
                  | go_big_quiet_step (fail))
                refine wpQuiet_nil ?_
                intro _ hw
                obtain ⟨p', rfl⟩ := hw
                replace O := O.keeps p'.2
                clear c0 c1 c2 c3 c4 c7 q1 qh3
                generalize p'.1 = W at O ⊢
                go_wp2
                go_meet
                exact ⟨by rw [HV.out], O⟩
            case rest =>
              obtain ⟨rfl, O⟩ := hcut
              clear c0 c1 c2 c3 c4 c7 HSM
              cases sm with
              | true =>
                go_wp2
                go_roundg (j - (k + 1))
                case measure => (have := HG.out; omega)
                case rel => exact ⟨k + 1, by omega, rfl, by go_num, rfl, rfl, by rw [HPL.out]; go_num, O⟩
              | false =>
                go_wp2
                go_roundg (j - (k + 1))
                case measure => (have := HG.out; omega)
                case rel => exact ⟨k + 1, by omega, rfl, by go_num, rfl, rfl, by rw [HPL.out]; rfl, O⟩
    · obtain rfl : k = j := by omega
      clear HG g1
      obtain ⟨x9, hx9⟩ : ∃ x, x = oI (lastN E who k) := ⟨_, rfl⟩
      obtain ⟨x10, hx10⟩ : ∃ x, x = oI (bornN E who k) := ⟨_, rfl⟩
      obtain ⟨nk, hnk⟩ : ∃ x, x = (pickL (samE E ⟨who, op, a, v, sh⟩) k).length := ⟨_, rfl⟩
      rw [← hx9, ← hx10, ← hnk]
      have HNK := Lib.hid hnk
      have HX9 := Lib.hid hx9
      have HX10 := Lib.hid hx10
      have hnkk : nk ≤ k := by rw [hnk]; exact pickL_length _ _
      clear hx9 hx10 hnk
      go_upto_if 108 with (fail)
      go_cut [8] (fun s8 wx => Own w wx [] (LI S A c R d g7 a3 ⟨who, op, a, v, sh⟩) ∧ Mint w.heap.size wx s8 (ownL (lkN E k) who))
      case first =>
        have M := Mint.nil w.heap.size wr
        cases hl : lastN E who k with
        | some i =>
          have HO := Lib.hid (show ownL (lkN E k) who = [] ++ [x9] by rw [ownL_lk, hl, HX9.out, hl]; rfl)
          have q1 : (0 : Int) ≤ x9 := by rw [HX9.out, hl]; exact (lastN_lt hl).1
          clear hl
          go_wp2_with (first
            | (refine own_lit1 111 (x9) O rfl rfl rfl rfl ?_; clear O; intro W gl O K1 _; replace M := M.keeps K1 (by simp); clear K1; simp only [Act.put, List.setIfInBounds_toArray, List.set_cons_zero, List.set_cons_succ])
            | (at_builtin; refine own_app w.heap.size _ ([]) (x9) gl (.tmp 109) (.tmp 111) (O.drop_ 1) M rfl rfl rfl rfl ((O.get 0 rfl).cell 0) rfl (by simp [LI]) (by simp) ?_; clear O M; intro v1 W O M; simp only [List.drop] at O; simp only [Act.put, List.setIfInBounds_toArray, List.set_cons_zero, List.set_cons_succ]))
          go_meet
          exact ⟨O, by rw [HO.out]; exact M⟩
        | none =>
          have q1 : ¬ (0 : Int) ≤ x9 := by rw [HX9.out, hl]; decide
          cases hb : bornN E who k with
          | some i =>
            have HO := Lib.hid (show ownL (lkN E k) who = [] ++ [x10] by rw [ownL_lk, hl, hb, HX10.out, hb]; rfl)
            have q2 : (0 : Int) ≤ x10 := by rw [HX10.out, hb]; exact (bornN_lt hb).1
            clear hl hb
            go_wp2_with (first
              | (refine own_lit1 117 (x10) O rfl rfl rfl rfl ?_; clear O; intro W gl O K1 _; replace M := M.keeps K1 (by simp); clear K1; simp only [Act.put, List.setIfInBounds_toArray, List.set_cons_zero, List.set_cons_succ])
              | (at_builtin; refine own_app w.heap.size _ ([]) (x10) gl (.tmp 115) (.tmp 117) (O.drop_ 1) M rfl rfl rfl rfl ((O.get 0 rfl).cell 0) rfl (by simp [LI]) (by simp) ?_; clear O M; intro v1 W O M; simp only [List.drop] at O; simp only [Act.put, List.setIfInBounds_toArray, List.set_cons_zero, List.set_cons_succ]))
            go_meet
            exact ⟨O, by rw [HO.out]; exact M⟩
          | none =>
            have HO := Lib.hid (show ownL (lkN E k) who = [] by rw [ownL_lk, hl, hb])
            have q2 : ¬ (0 : Int) ≤ x10 := by rw [HX10.out, hb]; decide
            clear hl hb
            go_wp2
            go_meet
            exact ⟨O, by rw [HO.out]; exact M⟩
      case rest =>
        obtain ⟨O, M⟩ := hcut
        have HOL := Lib.hid (show (ownL (lkN E k) who).length ≤ 1 by rw [ownL_lk]; split <;> (try split) <;> simp)
        clear HX9 HX10
        by_cases o6 : op = 6
        · subst o6
          rcases Bool.eq_false_or_eq_true sh with hs | hs
          · subst hs
            have c7 : ∀ i : Nat, (wc).cell? ⟨g7, i, none⟩ = #[Value.int .i64 who, .int .i64 6, .int .i64 a, .int .i64 v, .bool true][i]? := (O.get 0 rfl).cell
            go_wp2
            clear c7
            go_loopg [8, 13] k (fun g s8 s13 wr => ∃ m, m ≤ k ∧ g = k - m ∧ s13 = .int .i64 (m : Int) ∧ Own w wr [] (LI S A c R d g7 a3 ⟨who, 6, a, v, true⟩) ∧ Mint w.heap.size wr s8 (ownL (lkN E k) who) ∧ shutN E a m = none)
            case atStart => exact ⟨0, by omega, by omega, rfl, O, M, rfl⟩
            case round =>
              obtain ⟨m, hm, hgk, rfl, O, M, hsn⟩ := hrel
              have HSN := Lib.hid hsn
              clear hsn
              have HG := Lib.hid hgk
              clear hgk
              by_cases hlt : m < k
              · have g2 : ((m : Int)) < k := by omega
                have g3 : ((m : Int)) < n := by omega
                have g4 : (0 : Int) ≤ m := by omega
                obtain ⟨ad', e', hc⟩ := EvsAt.row (u := w) HE.out (show m < n by omega)
                cases e'
                obtain ⟨f, hf⟩ : ∃ f, f = E m := ⟨_, rfl⟩
                rw [← hf] at hc
                have HCK := Lib.hid hc
                have HFM := Lib.hid hf
                clear hf hc
                obtain ⟨lw, lo, la, lv, ls⟩ := f
                have c1 : ∀ p : Later wr, p.1.cell? ⟨(ad.add (m * 5)).block, (ad.add (m * 5)).off + 1, none⟩ = some (.int .i64 lo) := fun p => HCK.out [] _ (O.keep.trans p.2 (by simp)) (by simp) 1 (by show 1 < 5; omega)
                have c2 : ∀ p : Later wr, p.1.cell? ⟨(ad.add (m * 5)).block, (ad.add (m * 5)).off + 2, none⟩ = some (.int .i64 la) := fun p => HCK.out [] _ (O.keep.trans p.2 (by simp)) (by simp) 2 (by show 2 < 5; omega)
                have c7 : ∀ (p : Later wr) (i : Nat), p.1.cell? ⟨g7, i, none⟩ = #[Value.int .i64 who, .int .i64 6, .int .i64 a, .int .i64 v, .bool true][i]? := Later.cell (O.get 0 rfl)
                by_cases h1 : lo = 7
                · have q1 : (lo == 7) = true := by simpa using h1
                  by_cases h2 : la = a
                  · have q2 : (la == a) = true := by simpa using h2
                    have HY := Lib.hid (And.intro h1 h2)
                    clear h1 h2
                    go_wp2
                    refine wp_quiet_later (by kernel_rfl) (by kernel_rfl) ?_
                    repeat (first
                      | go_big_quiet_skip
                      | go_big_quiet_step (fail))
                    refine wpQuiet_nil ?_
                    intro _ hw
                    obtain ⟨p', rfl⟩ := hw
                    replace O := O.keeps p'.2
                    replace M := M.keeps p'.2 (by simp)
                    clear c1 c2 c7
                    generalize p'.1 = W at O M ⊢
                    clear q1 q2
                    have HSF := Lib.hid (show shutN E a k = some (m : Int) from shutN_found HSN.out (by rw [← HFM.out]; exact HY.out.1) (by rw [← HFM.out]; exact HY.out.2) hlt)
                    have HRF := Lib.hid (show refM E (rmS S) k ⟨who, 6, a, v, true⟩ = [(m : Int)] by show (shutN E a k).toList = _; rw [HSF.out]; rfl)
                    have c7 : ∀ i : Nat, (W).cell? ⟨g7, i, none⟩ = #[Value.int .i64 who, .int .i64 6, .int .i64 a, .int .i64 v, .bool true][i]? := (O.get 0 rfl).cell
                    go_wp2_with (first
                      | (refine own_lit1 150 ((m : Int)) O rfl rfl rfl rfl ?_; clear O; intro W gl O K1 _; replace M := M.keeps K1 (by simp); clear K1; simp only [Act.put, List.setIfInBounds_toArray, List.set_cons_zero, List.set_cons_succ])
                      | (at_builtin; refine own_app w.heap.size _ ((ownL (lkN E k) who)) ((m : Int)) gl (.tmp 148) (.tmp 150) (O.drop_ 1) M rfl rfl rfl rfl ((O.get 0 rfl).cell 0) rfl (by simp [LI]) (by have := HOL.out; omega) ?_; clear O M; intro v1 W O M; simp only [List.drop] at O; simp only [Act.put, List.setIfInBounds_toArray, List.set_cons_zero, List.set_cons_succ]))
                    clear c7
                    have HXL := Lib.hid (show ((ownL (lkN E k) who) ++ [(m : Int)]).length ≤ 1000000 by have := HOL.out; rw [List.length_append]; simp; omega)
                    go_wp2_with (go_at_call 98; refine (rising_any _ ((ownL (lkN E k) who) ++ [(m : Int)]) HXL.out M.list).mono ?_; rintro e W ⟨⟨r, ys, rfl, MR, HR⟩, K⟩)
                    go_ret
                    refine ⟨⟨_, rfl, mint_low (b := w.heap.size) ?_ O.keep.size⟩, O.keep.trans K (by simp)⟩
                    have hfin := into_rose (E := E) (rm := rmS S) (j := k) (ys := ys) (by rw [← HEJ.out]; rw [show refM E (rmS S) k _ = _ from HRF.out]; exact HR) (fun h6 hs => ok_take HOK.out h6 hs) (fun h6 hs => ok_shut HOK.out h6 hs)
                    rw [← hfin]
                    exact MR
                  · have q2 : (la == a) = false := by simpa using h2
                    have HN := Lib.hid (show ¬ (lo = 7 ∧ la = a) from fun q => h2 q.2)
                    clear h1 h2
                    go_wp2
                    refine wp_quiet_later (by kernel_rfl) (by kernel_rfl) ?_
                    repeat (first
                      | go_big_quiet_skip
                      | go_big_quiet_step (fail))
                    refine wpQuiet_nil ?_
                    intro _ hw
                    obtain ⟨p', rfl⟩ := hw
                    replace O := O.keeps p'.2
                    replace M := M.keeps p'.2 (by simp)
                    clear c1 c2 c7
                    generalize p'.1 = W at O M ⊢
                    clear q1
                    go_wp2
                    go_roundg (k - (m + 1))
                    case measure => (have := HG.out; omega)
                    case rel => exact ⟨m + 1, by omega, rfl, by go_num, O, M, (by rw [shutN, if_neg (fun q => HN.out ⟨(by have := q.1; rw [← HFM.out] at this; exact this), (by have := q.2.1; rw [← HFM.out] at this; exact this)⟩)]; exact HSN.out)⟩
                · have q1 : (lo == 7) = false := by simpa using h1
                  have HN := Lib.hid (show ¬ (lo = 7 ∧ la = a) from fun q => h1 q.1)
                  clear h1
                  go_wp2
                  refine wp_quiet_later (by kernel_rfl) (by kernel_rfl) ?_
                  repeat (first
                    | go_big_quiet_skip
                    | go_big_quiet_step (fail))
                  refine wpQuiet_nil ?_
                  intro _ hw
                  obtain ⟨p', rfl⟩ := hw
                  replace O := O.keeps p'.2
                  replace M := M.keeps p'.2 (by simp)
                  clear c1 c2 c7
                  generalize p'.1 = W at O M ⊢
                  clear q1
                  go_wp2
                  go_roundg (k - (m + 1))
                  case measure => (have := HG.out; omega)
                  case rel => exact ⟨m + 1, by omega, rfl, by go_num, O, M, (by rw [shutN, if_neg (fun q => HN.out ⟨(by have := q.1; rw [← HFM.out] at this; exact this), (by have := q.2.1; rw [← HFM.out] at this; exact this)⟩)]; exact HSN.out)⟩
              · obtain rfl : k = m := by omega
                exfalso
                have h1 := ok_shut HOK.out (by rw [← HEJ.out]) (by rw [← HEJ.out])
                rw [← HEJ.out] at h1
                rw [HSN.out] at h1
                cases h1
          · subst hs
            have c7 : ∀ i : Nat, (wc).cell? ⟨g7, i, none⟩ = #[Value.int .i64 who, .int .i64 6, .int .i64 a, .int .i64 v, .bool false][i]? := (O.get 0 rfl).cell
            have HTK := Lib.hid (HNK.out.trans (by rw [samE_6 E _ rfl rfl]))
            have HRF := Lib.hid (show refM E (rmS S) k ⟨who, 6, a, v, false⟩ = [nthV (isSend E a) k nk] by rw [HTK.out]; rfl)
            obtain ⟨y, hy⟩ : ∃ y, y = nthV (isSend E a) k nk := ⟨_, rfl⟩
            have HY := Lib.hid hy
            clear hy
            have hnk2 : nk ≤ 1000000 := by omega
            go_wp2_with (first
              | go_big_skip
              | (go_at_call 97; refine (nth_5 (HE.out.kept O.keep) hn k (by omega) a nk hnk2).mono ?_; rintro e w' ⟨rfl, rfl⟩; rw [← HY.out])
              | (refine own_lit1 163 (y) O rfl rfl rfl rfl ?_; clear O; intro W gl O K1 _; replace M := M.keeps K1 (by simp); clear K1; simp only [Act.put, List.setIfInBounds_toArray, List.set_cons_zero, List.set_cons_succ])
              | (at_builtin; refine own_app w.heap.size _ ((ownL (lkN E k) who)) (y) gl (.tmp 156) (.tmp 163) (O.drop_ 1) M rfl rfl rfl rfl ((O.get 0 rfl).cell 0) rfl (by simp [LI]) (by have := HOL.out; omega) ?_; clear O M; intro v1 W O M; simp only [List.drop] at O; simp only [Act.put, List.setIfInBounds_toArray, List.set_cons_zero, List.set_cons_succ]))
            clear c7
            have HXL := Lib.hid (show ((ownL (lkN E k) who) ++ [y]).length ≤ 1000000 by have := HOL.out; rw [List.length_append]; simp; omega)
            go_wp2_with (go_at_call 98; refine (rising_any _ ((ownL (lkN E k) who) ++ [y]) HXL.out M.list).mono ?_; rintro e W ⟨⟨r, ys, rfl, MR, HR⟩, K⟩)
            go_ret
            refine ⟨⟨_, rfl, mint_low (b := w.heap.size) ?_ O.keep.size⟩, O.keep.trans K (by simp)⟩
            have hfin := into_rose (E := E) (rm := rmS S) (j := k) (ys := ys) (by rw [← HEJ.out]; rw [show refM E (rmS S) k _ = _ from HRF.out.trans (by rw [← HY.out])]; exact HR) (fun h6 hs => ok_take HOK.out h6 hs) (fun h6 hs => ok_shut HOK.out h6 hs)
            rw [← hfin]
            exact MR
        · by_cases o5 : op = 5
          · exfalso
            have := HOP.out
            omega
          · by_cases o8 : op = 8
            · exfalso
              have := HOP.out
              omega
            · by_cases o11 : op = 11
              · exfalso
                have := HOP.out
                omega
              · exfalso
                have := HOP.out
                omega
end
end Go.Proofs.Ytakmcpadkanggaa
namespace Go.Proofs.Ytakmcpadkanggaa
open Go.RowKit Go.Maps Go.Deep
section
variable {w : World} {S : Sys} {A : Option Addr} {c : Nat} {R : Option Addr} {d n : Nat} {E : Nat → Ev} {B : Option Addr} {cb : Nat}
set_option maxRecDepth 100000 in
set_option maxHeartbeats 4000000 in
theorem into_5 (hS : SysIn w S A c R d) (hE : EvsAt w B n E) (hn : n ≤ 40000) (hrm : ∀ q, q < S.nr → 1 ≤ S.rm q ∧ S.rm q ≤ 1000000) (j : Nat) (hj : j < n) (hok : okE S (stN E j) (E j) = true) (hop : (E j).op = 5) : Calls Try.prog 71 #[.agg (sysV S A c R d), .slice B n cb, .int .i64 (j : Int)] w (IntoPost w S E j) := by
  have O := Own.start w []
  have HE := Lib.hid hE
  have g1 : ((j : Nat) : Int) < n := by omega
  have g0 : (0 : Int) ≤ j := by omega
  obtain ⟨ad, rfl, hc⟩ := EvsAt.row (u := w) HE.out hj
  have HC := Lib.hid hc
  obtain ⟨e, he⟩ : ∃ e, e = E j := ⟨_, rfl⟩
  rw [← he] at hc HC hop
  have HEJ := Lib.hid he
  have HRO := Lib.hid hS.rooms
  have HRM := Lib.hid hrm
  have HOK := Lib.hid hok
  clear hc hE he hS hrm hok
  obtain ⟨who, op, a, v, sh⟩ := e
  have HOP := Lib.hid hop
  clear hop
  go_enter Try.func71, Try.ntmps71
  go_wp2_with (first
    | go_big_skip
    | (refine own_box 3 (sysV S A c R d) O rfl rfl rfl rfl ?_; clear O; intro W a3 O; simp only [Act.put, List.setIfInBounds_toArray, List.set_cons_zero, List.set_cons_succ])
    | (refine wpList_load_at 21 rfl rfl rfl rfl (HC.out [] _ O.keep (by simp)) Try.underlying37 rfl (by kernel_rfl) ?_; simp only [Act.put, List.setIfInBounds_toArray, List.set_cons_zero, List.set_cons_succ])
    | (refine own_alloc 7 (evC ⟨0, 0, 0, 0, false⟩) O rfl rfl rfl (fun _ => by kernel_rfl) ?_; clear O; intro W g7 O; simp only [Act.put, List.setIfInBounds_toArray, List.set_cons_zero, List.set_cons_succ])
    | (refine own_store_row 0 (.tmp 7) (.tmp 21) O rfl rfl rfl rfl rfl rfl (by kernel_rfl) (by rfl) (evC_cell _) ?_; clear O; intro W O; simp only [List.set_cons_zero] at O))
  go_loopg [9, 10, 11, 12] j (fun g s9 s10 s11 s12 wr => ∃ k, k ≤ j ∧ g = j - k ∧ s12 = .int .i64 (k : Int) ∧ s9 = .int .i64 (oI (lastN E who k)) ∧ s10 = .int .i64 (oI (bornN E who k)) ∧ s11 = .int .i64 ((pickL (samE E ⟨who, op, a, v, sh⟩) k).length : Int) ∧ Own w wr [] (LI S A c R d g7 a3 ⟨who, op, a, v, sh⟩))
  case atStart => exact ⟨0, by omega, by omega, rfl, rfl, rfl, rfl, O⟩
  case round =>
    obtain ⟨k, hk, hgk, rfl, rfl, rfl, rfl, O⟩ := hrel
    have HG := Lib.hid hgk
    clear hgk
    by_cases hlt : k < j
    · have g2 : ((k : Int)) < j := by omega
      have g3 : ((k : Int)) < n := by omega
      have g4 : (0 : Int) ≤ k := by omega
      obtain ⟨ad', e', hc⟩ := EvsAt.row (u := w) HE.out (show k < n by omega)
      cases e'
      obtain ⟨f, hf⟩ : ∃ f, f = E k := ⟨_, rfl⟩
      rw [← hf] at hc
      have HCK := Lib.hid hc
      have HLN := Lib.hid (show lastN E who (k + 1) = if f.who = who then some (k : Int) else lastN E who k by rw [hf]; rfl)
      have HBN := Lib.hid (show bornN E who (k + 1) = if f.op = 14 ∧ 0 < f.v ∧ f.v = who then some (k : Int) else bornN E who k by rw [hf]; rfl)
      have HSM := Lib.hid (show samE E ⟨who, op, a, v, sh⟩ k = ((((op == 5) && (f.op == 5)) || ((op == 6) && (!sh && ((f.op == 6) && !f.sh)))) && (f.a == a)) by rw [hf]; rfl)
      have HPL := Lib.hid (show (pickL (samE E ⟨who, op, a, v, sh⟩) (k + 1)).length = (pickL (samE E ⟨who, op, a, v, sh⟩) k).length + if samE E ⟨who, op, a, v, sh⟩ k then 1 else 0 by rw [pickL_succ, List.length_append]; split <;> rfl)
      have hpl := pickL_length (samE E ⟨who, op, a, v, sh⟩) k
      generalize samE E ⟨who, op, a, v, sh⟩ k = sm at HSM HPL
      generalize hnk : (pickL (samE E ⟨who, op, a, v, sh⟩) k).length = nk at hpl HPL ⊢
      clear hf hc hnk
      obtain ⟨lw, lo, la, lv, ls⟩ := f
      have c0 : ∀ p : Later wr, p.1.cell? (ad.add (k * 5)) = some (.int .i64 lw) := fun p => HCK.out [] _ (O.keep.trans p.2 (by simp)) (by simp) 0 (by show 0 < 5; omega)
      have c1 : ∀ p : Later wr, p.1.cell? ⟨(ad.add (k * 5)).block, (ad.add (k * 5)).off + 1, none⟩ = some (.int .i64 lo) := fun p => HCK.out [] _ (O.keep.trans p.2 (by simp)) (by simp) 1 (by show 1 < 5; omega)
      have c2 : ∀ p : Later wr, p.1.cell? ⟨(ad.add (k * 5)).block, (ad.add (k * 5)).off + 2, none⟩ = some (.int .i64 la) := fun p => HCK.out [] _ (O.keep.trans p.2 (by simp)) (by simp) 2 (by show 2 < 5; omega)
      have c3 : ∀ p : Later wr, p.1.cell? ⟨(ad.add (k * 5)).block, (ad.add (k * 5)).off + 3, none⟩ = some (.int .i64 lv) := fun p => HCK.out [] _ (O.keep.trans p.2 (by simp)) (by simp) 3 (by show 3 < 5; omega)
      have c4 : ∀ p : Later wr, p.1.cell? ⟨(ad.add (k * 5)).block, (ad.add (k * 5)).off + 4, none⟩ = some (.bool ls) := fun p => HCK.out [] _ (O.keep.trans p.2 (by simp)) (by simp) 4 (by show 4 < 5; omega)
      have c7 : ∀ (p : Later wr) (i : Nat), p.1.cell? ⟨g7, i, none⟩ = #[Value.int .i64 who, .int .i64 op, .int .i64 a, .int .i64 v, .bool sh][i]? := Later.cell (O.get 0 rfl)
      go_upto_region 9 with (fail)
      refine wp_quiet_later (by kernel_rfl) (by kernel_rfl) ?_
      repeat (first
        | go_big_quiet_skip
        | go_big_quiet_step (fail))
      refine wpQuiet_nil ?_
      intro _ hw
      obtain ⟨p', rfl⟩ := hw
      replace O := O.keeps p'.2
      clear c0 c1 c2 c3 c4 c7
      generalize p'.1 = W at O ⊢
      go_upto_if 34 with (fail)
      go_cut [9] (fun s9 wx => s9 = .int .i64 (oI (lastN E who (k + 1))) ∧ Own w wx [] (LI S A c R d g7 a3 ⟨who, op, a, v, sh⟩))
      case first =>
        by_cases h : lw = who
        · have e1 : (lw == who) = true := by simpa using h
          have HN := Lib.hid (HLN.out.trans (if_pos h))
          clear h
          go_wp2
          go_meet
          exact ⟨by rw [HN.out]; rfl, O⟩
        · have e1 : (lw == who) = false := by simpa using h
          have HN := Lib.hid (HLN.out.trans (if_neg h))
          clear h
          go_wp2
          go_meet
          exact ⟨by rw [HN.out], O⟩
      case rest =>
        obtain ⟨rfl, O⟩ := hcut
        clear HLN
        have c0 : ∀ p : Later wc, p.1.cell? (ad.add (k * 5)) = some (.int .i64 lw) := fun p => HCK.out [] _ (O.keep.trans p.2 (by simp)) (by simp) 0 (by show 0 < 5; omega)
        have c1 : ∀ p : Later wc, p.1.cell? ⟨(ad.add (k * 5)).block, (ad.add (k * 5)).off + 1, none⟩ = some (.int .i64 lo) := fun p => HCK.out [] _ (O.keep.trans p.2 (by simp)) (by simp) 1 (by show 1 < 5; omega)
        have c2 : ∀ p : Later wc, p.1.cell? ⟨(ad.add (k * 5)).block, (ad.add (k * 5)).off + 2, none⟩ = some (.int .i64 la) := fun p => HCK.out [] _ (O.keep.trans p.2 (by simp)) (by simp) 2 (by show 2 < 5; omega)
        have c3 : ∀ p : Later wc, p.1.cell? ⟨(ad.add (k * 5)).block, (ad.add (k * 5)).off + 3, none⟩ = some (.int .i64 lv) := fun p => HCK.out [] _ (O.keep.trans p.2 (by simp)) (by simp) 3 (by show 3 < 5; omega)
        have c4 : ∀ p : Later wc, p.1.cell? ⟨(ad.add (k * 5)).block, (ad.add (k * 5)).off + 4, none⟩ = some (.bool ls) := fun p => HCK.out [] _ (O.keep.trans p.2 (by simp)) (by simp) 4 (by show 4 < 5; omega)
        have c7 : ∀ (p : Later wc) (i : Nat), p.1.cell? ⟨g7, i, none⟩ = #[Value.int .i64 who, .int .i64 op, .int .i64 a, .int .i64 v, .bool sh][i]? := Later.cell (O.get 0 rfl)
        obtain ⟨bB, hbB⟩ : ∃ bB, bB = decide (lo = 14 ∧ 0 < lv ∧ lv = who) := ⟨_, rfl⟩
        have HBB := Lib.hid hbB
        clear hbB
        go_upto_region 11 with (fail)
        go_cut [56] (fun s wx => s = .bool bB ∧ Own w wx [] (LI S A c R d g7 a3 ⟨who, op, a, v, sh⟩))
        case first =>
          by_cases h1 : lo = 14
          · have qh1 : (lo == 14) = true := by simpa using h1
            by_cases h2 : lv = who
            · have qh2 : (lv == who) = true := by simpa using h2
              by_cases h3 : 0 < who
              · have qh3 : decide (0 < who) = true := decide_eq_true h3
                have HV := Lib.hid (show bB = true by rw [HBB.out]; simp [qh1, h1, qh2, h2, qh3, h3])
                clear h1 h2 h3
                refine wp_quiet_later (by kernel_rfl) (by kernel_rfl) ?_
                repeat (first
                  | go_big_quiet_skip
                  | go_big_quiet_step (fail))
                refine wpQuiet_nil ?_
                intro _ hw
                obtain ⟨p', rfl⟩ := hw
                replace O := O.keeps p'.2
                clear c0 c1 c2 c3 c4 c7 qh1 qh2 qh3
                generalize p'.1 = W at O ⊢
                go_wp2
                go_meet
                exact ⟨by rw [HV.out], O⟩
              · have qh3 : decide (0 < who) = false := decide_eq_false h3
                have HV := Lib.hid (show bB = false by rw [HBB.out]; simp [qh1, h1, qh2, h2, qh3, h3])
                clear h1 h2 h3
                refine wp_quiet_later (by kernel_rfl) (by kernel_rfl) ?_
                repeat (first
                  | go_big_quiet_skip
                  | go_big_quiet_step (fail))
                refine wpQuiet_nil ?_
                intro _ hw
                obtain ⟨p', rfl⟩ := hw
                replace O := O.keeps p'.2
                clear c0 c1 c2 c3 c4 c7 qh1 qh2 qh3
                generalize p'.1 = W at O ⊢
                go_wp2
                go_meet
                exact ⟨by rw [HV.out], O⟩
            · have qh2 : (lv == who) = false := by simpa using h2
              have HV := Lib.hid (show bB = false by rw [HBB.out]; simp [qh1, h1, qh2, h2])
              clear h1 h2
              refine wp_quiet_later (by kernel_rfl) (by kernel_rfl) ?_
              repeat (first
                | go_big_quiet_skip
                | go_big_quiet_step (fail))
              refine wpQuiet_nil ?_
              intro _ hw
              obtain ⟨p', rfl⟩ := hw
              replace O := O.keeps p'.2
              clear c0 c1 c2 c3 c4 c7 qh1 qh2
              generalize p'.1 = W at O ⊢
              go_wp2
              go_meet
              exact ⟨by rw [HV.out], O⟩
          · have qh1 : (lo == 14) = false := by simpa using h1
            have HV := Lib.hid (show bB = false by rw [HBB.out]; simp [qh1, h1])
            clear h1
            refine wp_quiet_later (by kernel_rfl) (by kernel_rfl) ?_
            repeat (first
              | go_big_quiet_skip
              | go_big_quiet_step (fail))
            refine wpQuiet_nil ?_
            intro _ hw
            obtain ⟨p', rfl⟩ := hw
            replace O := O.keeps p'.2
            clear c0 c1 c2 c3 c4 c7 qh1
            generalize p'.1 = W at O ⊢
            go_wp2
            go_meet
            exact ⟨by rw [HV.out], O⟩
        case rest =>
          obtain ⟨rfl, O⟩ := hcut
          clear c0 c1 c2 c3 c4 c7
          go_upto_if 56 with (fail)
          go_cut [10] (fun s10 wx => s10 = .int .i64 (oI (bornN E who (k + 1))) ∧ Own w wx [] (LI S A c R d g7 a3 ⟨who, op, a, v, sh⟩))
          case first =>
            cases bB with
            | true =>
              have HN := Lib.hid (HBN.out.trans (if_pos (of_decide_eq_true HBB.out.symm)))
              go_wp2
              go_meet
              exact ⟨by rw [HN.out]; rfl, O⟩
            | false =>
              have HN := Lib.hid (HBN.out.trans (if_neg (of_decide_eq_false HBB.out.symm)))
              go_wp2
              go_meet
              exact ⟨by rw [HN.out], O⟩
          case rest =>
            obtain ⟨rfl, O⟩ := hcut
            clear HBN HBB
            have c0 : ∀ p : Later wc, p.1.cell? (ad.add (k * 5)) = some (.int .i64 lw) := fun p => HCK.out [] _ (O.keep.trans p.2 (by simp)) (by simp) 0 (by show 0 < 5; omega)
            have c1 : ∀ p : Later wc, p.1.cell? ⟨(ad.add (k * 5)).block, (ad.add (k * 5)).off + 1, none⟩ = some (.int .i64 lo) := fun p => HCK.out [] _ (O.keep.trans p.2 (by simp)) (by simp) 1 (by show 1 < 5; omega)
            have c2 : ∀ p : Later wc, p.1.cell? ⟨(ad.add (k * 5)).block, (ad.add (k * 5)).off + 2, none⟩ = some (.int .i64 la) := fun p => HCK.out [] _ (O.keep.trans p.2 (by simp)) (by simp) 2 (by show 2 < 5; omega)
            have c3 : ∀ p : Later wc, p.1.cell? ⟨(ad.add (k * 5)).block, (ad.add (k * 5)).off + 3, none⟩ = some (.int .i64 lv) := fun p => HCK.out [] _ (O.keep.trans p.2 (by simp)) (by simp) 3 (by show 3 < 5; omega)
            have c4 : ∀ p : Later wc, p.1.cell? ⟨(ad.add (k * 5)).block, (ad.add (k * 5)).off + 4, none⟩ = some (.bool ls) := fun p => HCK.out [] _ (O.keep.trans p.2 (by simp)) (by simp) 4 (by show 4 < 5; omega)
            have c7 : ∀ (p : Later wc) (i : Nat), p.1.cell? ⟨g7, i, none⟩ = #[Value.int .i64 who, .int .i64 op, .int .i64 a, .int .i64 v, .bool sh][i]? := Later.cell (O.get 0 rfl)
            go_upto_region 13 with (fail)
            go_cut [104] (fun s wx => s = .bool sm ∧ Own w wx [] (LI S A c R d g7 a3 ⟨who, op, a, v, sh⟩))
            case first =>
              have q1 : (op == 5) = true := by have h := HOP.out; simpa using h
              by_cases h2 : lo = 5
              · have qh2 : (lo == 5) = true := by simpa using h2
                by_cases h7 : la = a
                · have qh7 : (la == a) = true := by simpa using h7
                  have HV := Lib.hid (show sm = true by rw [HSM.out]; simp [q1, qh2, h2, qh7, h7])
                  clear h2 h7
                  refine wp_quiet_later (by kernel_rfl) (by kernel_rfl) ?_
                  repeat (first
                    | go_big_quiet_skip
                    | go_big_quiet_step (fail))
                  refine wpQuiet_nil ?_
                  intro _ hw
                  obtain ⟨p', rfl⟩ := hw
                  replace O := O.keeps p'.2
                  clear c0 c1 c2 c3 c4 c7 q1 qh2 qh7
                  generalize p'.1 = W at O ⊢
                  go_wp2
                  go_meet
                  exact ⟨by rw [HV.out], O⟩
                · have qh7 : (la == a) = false := by simpa using h7
                  have HV := Lib.hid (show sm = false by rw [HSM.out]; simp [q1, qh2, h2, qh7, h7])
                  clear h2 h7
                  refine wp_quiet_later (by kernel_rfl) (by kernel_rfl) ?_
                  repeat (first
                    | go_big_quiet_skip
                    | go_big_quiet_step (fail))
                  refine wpQuiet_nil ?_
                  intro _ hw
                  obtain ⟨p', rfl⟩ := hw
                  replace O := O.keeps p'.2
                  clear c0 c1 c2 c3 c4 c7 q1 qh2 qh7
                  generalize p'.1 = W at O ⊢
                  go_wp2
                  go_meet
                  exact ⟨by rw [HV.out], O⟩
              · have qh2 : (lo == 5) = false := by simpa using h2
                have q3 : (op == 6) = false := by have h := HOP.out; simpa using (show ¬ op = 6 by omega)
                have HV := Lib.hid (show sm = false by rw [HSM.out]; simp [q1, qh2, h2, q3])
                clear h2
                refine wp_quiet_later (by kernel_rfl) (by kernel_rfl) ?_
                repeat (first
                  | go_big_quiet_skip
                  | go_big_quiet_step (fail))
                refine wpQuiet_nil ?_
                intro _ hw
                obtain ⟨p', rfl⟩ := hw
                replace O := O.keeps p'.2
                clear c0 c1 c2 c3 c4 c7 q1 qh2 q3
                generalize p'.1 = W at O ⊢
                go_wp2
                go_meet
                exact ⟨by rw [HV.out], O⟩
            case rest =>
              obtain ⟨rfl, O⟩ := hcut
              clear c0 c1 c2 c3 c4 c7 HSM
              cases sm with
              | true =>
                go_wp2
                go_roundg (j - (k + 1))
                case measure => (have := HG.out; omega)
                case rel => exact ⟨k + 1, by omega, rfl, by go_num, rfl, rfl, by rw [HPL.out]; go_num, O⟩
              | false =>
                go_wp2
                go_roundg (j - (k + 1))
                case measure => (have := HG.out; omega)
                case rel => exact ⟨k + 1, by omega, rfl, by go_num, rfl, rfl, by rw [HPL.out]; rfl, O⟩
    · obtain rfl : k = j := by omega
      clear HG g1
      obtain ⟨x9, hx9⟩ : ∃ x, x = oI (lastN E who k) := ⟨_, rfl⟩
      obtain ⟨x10, hx10⟩ : ∃ x, x = oI (bornN E who k) := ⟨_, rfl⟩
      obtain ⟨nk, hnk⟩ : ∃ x, x = (pickL (samE E ⟨who, op, a, v, sh⟩) k).length := ⟨_, rfl⟩
      rw [← hx9, ← hx10, ← hnk]
      have HNK := Lib.hid hnk
      have HX9 := Lib.hid hx9
      have HX10 := Lib.hid hx10
      have hnkk : nk ≤ k := by rw [hnk]; exact pickL_length _ _
      clear hx9 hx10 hnk
      go_upto_if 108 with (fail)
      go_cut [8] (fun s8 wx => Own w wx [] (LI S A c R d g7 a3 ⟨who, op, a, v, sh⟩) ∧ Mint w.heap.size wx s8 (ownL (lkN E k) who))
      case first =>
        have M := Mint.nil w.heap.size wr
        cases hl : lastN E who k with
        | some i =>
          have HO := Lib.hid (show ownL (lkN E k) who = [] ++ [x9] by rw [ownL_lk, hl, HX9.out, hl]; rfl)
          have q1 : (0 : Int) ≤ x9 := by rw [HX9.out, hl]; exact (lastN_lt hl).1
          clear hl
          go_wp2_with (first
            | (refine own_lit1 111 (x9) O rfl rfl rfl rfl ?_; clear O; intro W gl O K1 _; replace M := M.keeps K1 (by simp); clear K1; simp only [Act.put, List.setIfInBounds_toArray, List.set_cons_zero, List.set_cons_succ])
            | (at_builtin; refine own_app w.heap.size _ ([]) (x9) gl (.tmp 109) (.tmp 111) (O.drop_ 1) M rfl rfl rfl rfl ((O.get 0 rfl).cell 0) rfl (by simp [LI]) (by simp) ?_; clear O M; intro v1 W O M; simp only [List.drop] at O; simp only [Act.put, List.setIfInBounds_toArray, List.set_cons_zero, List.set_cons_succ]))
          go_meet
          exact ⟨O, by rw [HO.out]; exact M⟩
        | none =>
          have q1 : ¬ (0 : Int) ≤ x9 := by rw [HX9.out, hl]; decide
          cases hb : bornN E who k with
          | some i =>
            have HO := Lib.hid (show ownL (lkN E k) who = [] ++ [x10] by rw [ownL_lk, hl, hb, HX10.out, hb]; rfl)
            have q2 : (0 : Int) ≤ x10 := by rw [HX10.out, hb]; exact (bornN_lt hb).1
            clear hl hb
            go_wp2_with (first
              | (refine own_lit1 117 (x10) O rfl rfl rfl rfl ?_; clear O; intro W gl O K1 _; replace M := M.keeps K1 (by simp); clear K1; simp only [Act.put, List.setIfInBounds_toArray, List.set_cons_zero, List.set_cons_succ])
              | (at_builtin; refine own_app w.heap.size _ ([]) (x10) gl (.tmp 115) (.tmp 117) (O.drop_ 1) M rfl rfl rfl rfl ((O.get 0 rfl).cell 0) rfl (by simp [LI]) (by simp) ?_; clear O M; intro v1 W O M; simp only [List.drop] at O; simp only [Act.put, List.setIfInBounds_toArray, List.set_cons_zero, List.set_cons_succ]))
            go_meet
            exact ⟨O, by rw [HO.out]; exact M⟩
          | none =>
            have HO := Lib.hid (show ownL (lkN E k) who = [] by rw [ownL_lk, hl, hb])
            have q2 : ¬ (0 : Int) ≤ x10 := by rw [HX10.out, hb]; decide
            clear hl hb
            go_wp2
            go_meet
            exact ⟨O, by rw [HO.out]; exact M⟩
      case rest =>
        obtain ⟨O, M⟩ := hcut
        have HOL := Lib.hid (show (ownL (lkN E k) who).length ≤ 1 by rw [ownL_lk]; split <;> (try split) <;> simp)
        clear HX9 HX10
        by_cases o6 : op = 6
        · exfalso
          have := HOP.out
          omega
        · by_cases o5 : op = 5
          · subst o5
            have hro := HOK.out
            rw [← HEJ.out] at hro
            obtain ⟨ha0, ha1⟩ := ok_room hro
            obtain ⟨aN, rfl⟩ : ∃ aN : Nat, a = (aN : Int) := ⟨a.toNat, by omega⟩
            have haN : aN < S.nr := by omega
            obtain ⟨rad, rfl, hrb, hrc⟩ := HRO.out (by omega)
            have hr1 := HRM.out aN haN
            obtain ⟨rma, hrma⟩ : ∃ x, x = S.rm aN := ⟨_, rfl⟩
            have hrcN := hrc aN haN
            rw [← hrma] at hr1 hrcN
            have HRC := Lib.hid (show ∀ u, Keeps w u [] → u.cell? (rad.add aN) = some (.int .i64 rma) from fun u K => (K.cellAt (by rw [add_block]; exact hrb) (by simp)).trans hrcN)
            have HRMA := Lib.hid hrma
            have HSK := Lib.hid (HNK.out.trans (by rw [samE_5 E _ rfl]))
            have g9 : (0 : Int) ≤ (aN : Int) := by omega
            have g8 : (aN : Int) < (S.nr : Int) := by omega
            clear hro ha0 ha1 hrb hrc hrcN hrma haN
            have c7 : ∀ i : Nat, (wc).cell? ⟨g7, i, none⟩ = #[Value.int .i64 who, .int .i64 5, .int .i64 (aN : Int), .int .i64 v, .bool sh][i]? := (O.get 0 rfl).cell; have c3 : (wc).cell? ⟨a3, 1, none⟩ = some (.slice (some rad) S.nr d) := (O.get 1 rfl).cell 1; have cr : (wc).cell? (rad.add aN) = some (.int .i64 rma) := HRC.out _ O.keep
            by_cases hr : rma ≤ (nk : Int)
            · obtain ⟨q, hq⟩ : ∃ q : Nat, (nk : Int) - rma = (q : Int) := ⟨((nk : Int) - rma).toNat, by omega⟩
              have hq6 : q ≤ 1000000 := by omega
              have r1 : IntKind.i64.wrap ((nk : Int) - rma) = (q : Int) := by
                rw [hq]
                exact IntWalk.i64_in _ (by omega)
              have HRF := Lib.hid (show refM E (rmS S) k ⟨who, 5, (aN : Int), v, sh⟩ = [nthV (isTake E (aN : Int)) k q] by
                have h1 : (((pickL (isSend E (aN : Int)) k).length : Int) - rmS S (aN : Int)).toNat = q := by
                  rw [← HSK.out]; show ((nk : Int) - S.rm ((aN : Int)).toNat).toNat = q
                  rw [Int.toNat_natCast, ← HRMA.out, hq]; rfl
                unfold refM
                rw [if_neg (show ¬ (5 : Int) = 6 by decide), if_pos rfl, if_pos (by rw [← HSK.out]; show S.rm ((aN : Int)).toNat ≤ (nk : Int); rw [Int.toNat_natCast, ← HRMA.out]; exact hr), h1])
              have q1 : decide (rma ≤ (nk : Int)) = true := decide_eq_true hr
              obtain ⟨y, hy⟩ : ∃ y, y = nthV (isTake E (aN : Int)) k q := ⟨_, rfl⟩
              have HY := Lib.hid hy
              clear hy hq
              go_wp2_with (first | go_big_skip)
              clear c7 c3 cr q1
              refine wp_held (S := fun u => Own w u [] (LI S A c (some rad) d g7 a3 ⟨who, 5, (aN : Int), v, sh⟩)) 17 #[false, false, false, false, false, false, false, false, false, false, false, false, false, false, false, false, false] (by kernel_rfl) rfl rfl ?_
              replace O := O.drew
              replace M := M.keeps (Keeps.refl _ []).drew (by simp)
              refine seg_take (fuel := 4) (L' := #[true, true, true, true, true, true, true, true, true, true, true, true, true, false, false, false, false]) (by kernel_rfl) (fun _ _ _ _ _ _ h => h) (by first | exact O | exact O.drop_ 1) [0, 1, 2, 3, 4, 5, 6, 7, 8, 9, 10, 11, 12] [_, _, _, _, _, _, _, _, _, _, _, _, _] _ _ rfl (by kernel_rfl) ?_
              simp only [List.getElem_toArray, List.getElem_cons_zero, List.getElem_cons_succ]
              repeat (first
                | (refine take_pure (v := ?_) (by rfl) ?_ ?_; rotate_left; (· (intro w hSw; have c7 : ∀ i : Nat, w.cell? ⟨g7, i, none⟩ = #[Value.int .i64 who, .int .i64 5, .int .i64 (aN : Int), .int .i64 v, .bool sh][i]? := (Own.get hSw 0 rfl).cell; have c3 : w.cell? ⟨a3, 1, none⟩ = some (.slice (some rad) S.nr d) := (Own.get hSw 1 rfl).cell 1; have cr := HRC.out _ (Own.keep hSw); clear hSw; go_simp; try with_reducible rfl)); simp only [Act.put, List.setIfInBounds_toArray, List.set_cons_zero, List.set_cons_succ]))
              refine take_done ?_
              refine seg_sole 13 #[true, true, true, true, true, true, true, true, true, true, true, true, true, true, false, false, false] rfl (by kernel_rfl) ?_
              try simp only [List.getElem_toArray, List.getElem_cons_zero, List.getElem_cons_succ]
              go_wp2_with (go_at_call 97; refine (nth_6 (HE.out.kept O.keep) hn k (by omega) (aN : Int) q hq6).mono ?_; rintro e w' ⟨rfl, rfl⟩; rw [← HY.out])
              (first | refine back_intro2 (by first | exact O | exact O.drop_ 1) ?_ | refine back_intro (by first | exact O | exact O.drop_ 1) ?_)
              refine seg_sole 14 #[true, true, true, true, true, true, true, true, true, true, true, true, true, true, true, false, false] rfl (by kernel_rfl) ?_
              try simp only [List.getElem_toArray, List.getElem_cons_zero, List.getElem_cons_succ]
              go_wp2_with (refine own_lit1 193 (y) O rfl rfl rfl rfl ?_; clear O; intro W gl O K1 _; replace M := M.keeps K1 (by simp); clear K1; simp only [Act.put, List.setIfInBounds_toArray, List.set_cons_zero, List.set_cons_succ])
              (first | refine back_intro2 (by first | exact O | exact O.drop_ 1) ?_ | refine back_intro (by first | exact O | exact O.drop_ 1) ?_)
              refine seg_sole 15 #[true, true, true, true, true, true, true, true, true, true, true, true, true, true, true, true, false] rfl (by kernel_rfl) ?_
              try simp only [List.getElem_toArray, List.getElem_cons_zero, List.getElem_cons_succ]
              go_wp2_with (at_builtin; refine own_app w.heap.size _ ((ownL (lkN E k) who)) (y) gl (.tmp 179) (.tmp 193) (O.drop_ 1) M rfl rfl rfl rfl ((O.get 0 rfl).cell 0) rfl (by simp [LI]) (by have := HOL.out; omega) ?_; clear O M; intro v1 W O M; simp only [List.drop] at O; simp only [Act.put, List.setIfInBounds_toArray, List.set_cons_zero, List.set_cons_succ])
              (first | refine back_intro2 (by first | exact O | exact O.drop_ 1) ?_ | refine back_intro (by first | exact O | exact O.drop_ 1) ?_)
              refine seg_take (fuel := 0) (L' := #[true, true, true, true, true, true, true, true, true, true, true, true, true, true, true, true, true]) (by kernel_rfl) (fun _ _ _ _ _ _ h => h) (by first | exact O | exact O.drop_ 1) [16] [_] _ _ rfl (by kernel_rfl) ?_
              simp only [List.getElem_toArray, List.getElem_cons_zero, List.getElem_cons_succ]
              repeat (first
                | (refine take_pure (v := ?_) (by rfl) ?_ ?_; rotate_left; (· (intro w hSw; have c7 : ∀ i : Nat, w.cell? ⟨g7, i, none⟩ = #[Value.int .i64 who, .int .i64 5, .int .i64 (aN : Int), .int .i64 v, .bool sh][i]? := (Own.get hSw 0 rfl).cell; have c3 : w.cell? ⟨a3, 1, none⟩ = some (.slice (some rad) S.nr d) := (Own.get hSw 1 rfl).cell 1; have cr := HRC.out _ (Own.keep hSw); clear hSw; go_simp; try with_reducible rfl)); simp only [Act.put, List.setIfInBounds_toArray, List.set_cons_zero, List.set_cons_succ]))
              refine take_done ?_
              refine seg_done (by kernel_rfl) ?_
              clear r1
              have HXL := Lib.hid (show ((ownL (lkN E k) who) ++ [y]).length ≤ 1000000 by have := HOL.out; rw [List.length_append]; simp; omega)
              go_wp2_with (go_at_call 98; refine (rising_any _ ((ownL (lkN E k) who) ++ [y]) HXL.out M.list).mono ?_; rintro e W ⟨⟨r, ys, rfl, MR, HR⟩, K⟩)
              go_ret
              refine ⟨⟨_, rfl, mint_low (b := w.heap.size) ?_ O.keep.size⟩, O.keep.trans K (by simp)⟩
              have hfin := into_rose (E := E) (rm := rmS S) (j := k) (ys := ys) (by rw [← HEJ.out]; rw [show refM E (rmS S) k _ = _ from HRF.out.trans (by rw [← HY.out])]; exact HR) (fun h6 hs => ok_take HOK.out h6 hs) (fun h6 hs => ok_shut HOK.out h6 hs)
              rw [← hfin]
              exact MR
            · have HRF := Lib.hid (show refM E (rmS S) k ⟨who, 5, (aN : Int), v, sh⟩ = [] by
                unfold refM
                rw [if_neg (show ¬ (5 : Int) = 6 by decide), if_pos rfl, if_neg (by rw [← HSK.out]; show ¬ S.rm ((aN : Int)).toNat ≤ (nk : Int); rw [Int.toNat_natCast, ← HRMA.out]; exact hr)])
              have q1 : decide (rma ≤ (nk : Int)) = false := decide_eq_false hr
              have q2 : ¬ rma ≤ (nk : Int) := hr
              rw [← List.append_nil (ownL (lkN E k) who)] at M
              have HXL := Lib.hid (show ((ownL (lkN E k) who) ++ []).length ≤ 1000000 by have := HOL.out; rw [List.append_nil]; omega)
              go_wp2_with (first | go_big_skip | go_at_call 98; refine (rising_any _ ((ownL (lkN E k) who) ++ []) HXL.out M.list).mono ?_; rintro e W ⟨⟨r, ys, rfl, MR, HR⟩, K⟩)
              go_ret
              refine ⟨⟨_, rfl, mint_low (b := w.heap.size) ?_ O.keep.size⟩, O.keep.trans K (by simp)⟩
              have hfin := into_rose (E := E) (rm := rmS S) (j := k) (ys := ys) (by rw [← HEJ.out]; rw [show refM E (rmS S) k _ = _ from HRF.out]; exact HR) (fun h6 hs => ok_take HOK.out h6 hs) (fun h6 hs => ok_shut HOK.out h6 hs)
              rw [← hfin]
              exact MR
          · by_cases o8 : op = 8
            · exfalso
              have := HOP.out
              omega
            · by_cases o11 : op = 11
              · exfalso
                have := HOP.out
                omega
              · exfalso
                have := HOP.out
                omega
end
end Go.Proofs.Ytakmcpadkanggaa

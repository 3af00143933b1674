/-
  The world of a run in memory: known blocks, and beside them the row of events and the queues.
-/
import Derived.Test.YtakmcpadkanggaaT26
namespace Go.Proofs.Ytakmcpadkanggaa
open Go.RowKit Go.Maps Go.Deep

def rnC (r : Rn) : Array Value := #[.int .i64 r.prog, .int .i64 r.pos, .int .i64 (r.rg 0), .int .i64 (r.rg 1), .int .i64 (r.rg 2), .int .i64 (r.rg 3), .int .i64 (r.rg 4), .int .i64 (r.rg 5), .int .i64 (r.rg 6), .int .i64 (r.rg 7)]
theorem rnC_reg (r : Rn) (a : Nat) (h : a < 8) : (rnC r)[2 + a]? = some (.int .i64 (r.rg a)) := by
  match a, h with
  | 0, _ => rfl
  | 1, _ => rfl
  | 2, _ => rfl
  | 3, _ => rfl
  | 4, _ => rfl
  | 5, _ => rfl
  | 6, _ => rfl
  | 7, _ => rfl
theorem rnC_cell (r : Rn) : ∀ v ∈ (rnC r).toList, v.oneCell' = true := by
  intro v hv
  simp [rnC] at hv
  rcases hv with rfl | rfl | rfl | rfl | rfl | rfl | rfl | rfl | rfl | rfl <;> rfl
/-- A row of runners. -/
def WhoC (cur : Array Value) (n : Nat) (rs : Nat → Rn) : Prop := ∀ k, k < n → ∀ f, f < 10 → cur[k * 10 + f]? = (rnC (rs k))[f]?
theorem WhoC.prog {cur : Array Value} {n : Nat} {rs : Nat → Rn} (h : WhoC cur n rs) {k : Nat} (hk : k < n) : cur[k * 10]? = some (.int .i64 (rs k).prog) := h k hk 0 (by omega)
theorem WhoC.pos {cur : Array Value} {n : Nat} {rs : Nat → Rn} (h : WhoC cur n rs) {k : Nat} (hk : k < n) : cur[k * 10 + 1]? = some (.int .i64 (rs k).pos) := h k hk 1 (by omega)
theorem WhoC.reg {cur : Array Value} {n : Nat} {rs : Nat → Rn} (h : WhoC cur n rs) {k a : Nat} (hk : k < n) (ha : a < 8) : cur[k * 10 + 2 + a]? = some (.int .i64 ((rs k).rg a)) := by
  rw [Nat.add_assoc, h k hk (2 + a) (by omega), rnC_reg _ _ ha]
theorem WhoC.lt {cur : Array Value} {n : Nat} {rs : Nat → Rn} (h : WhoC cur n rs) {k f : Nat} (hk : k < n) (hf : f < 10) : k * 10 + f < cur.size := by
  have h1 := h k hk f hf
  rcases Nat.lt_or_ge (k * 10 + f) cur.size with h2 | h2
  · exact h2
  · rw [Array.getElem?_eq_none h2] at h1
    have : f < (rnC (rs k)).size := by show f < 10; omega
    rw [Array.getElem?_eq_getElem this] at h1
    cases h1
theorem WhoC.set_pos {cur : Array Value} {n : Nat} {rs : Nat → Rn} (h : WhoC cur n rs) {k on : Nat} (hk : k < n) : WhoC (cur.setIfInBounds (k * 10 + 1) (.int .i64 (on : Int))) n (fun j => if j = k then { rs k with pos := on } else rs j) := by
  intro j hj f hf
  show _ = (rnC (if j = k then { rs k with pos := on } else rs j))[f]?
  rw [Array.getElem?_setIfInBounds]
  have hl := h.lt hk (f := 1) (by omega)
  by_cases e : k * 10 + 1 = j * 10 + f
  · obtain rfl : j = k := by omega
    obtain rfl : f = 1 := by omega
    rw [if_pos e, if_pos hl, if_pos rfl]
    rfl
  · rw [if_neg e, h j hj f hf]
    by_cases hjk : j = k
    · subst hjk
      rw [if_pos rfl]
      match f, hf with
      | 0, _ => rfl
      | 1, _ => omega
      | 2, _ => rfl
      | 3, _ => rfl
      | 4, _ => rfl
      | 5, _ => rfl
      | 6, _ => rfl
      | 7, _ => rfl
      | 8, _ => rfl
      | 9, _ => rfl
    · rw [if_neg hjk]
theorem WhoC.set_reg {cur : Array Value} {n : Nat} {rs : Nat → Rn} (h : WhoC cur n rs) {k a : Nat} (v : Int) (hk : k < n) (ha : a < 8) : WhoC (cur.setIfInBounds (k * 10 + 2 + a) (.int .i64 v)) n (fun j => if j = k then setReg (rs k) a v else rs j) := by
  intro j hj f hf
  show _ = (rnC (if j = k then setReg (rs k) a v else rs j))[f]?
  rw [Array.getElem?_setIfInBounds]
  have hl := h.lt hk (f := 2 + a) (by omega)
  by_cases e : k * 10 + 2 + a = j * 10 + f
  · obtain rfl : j = k := by omega
    obtain rfl : f = 2 + a := by omega
    rw [if_pos e, if_pos (by omega), if_pos rfl, rnC_reg _ _ ha]
    simp [setReg]
  · rw [if_neg e, h j hj f hf]
    by_cases hjk : j = k
    · subst hjk
      rw [if_pos rfl]
      rcases Nat.lt_or_ge f 2 with h2 | h2
      · match f, h2 with
        | 0, _ => rfl
        | 1, _ => rfl
      · obtain ⟨b, rfl⟩ : ∃ b, f = 2 + b := ⟨f - 2, by omega⟩
        rw [rnC_reg _ _ (by omega), rnC_reg _ _ (by omega)]
        simp [setReg, show ¬ b = a by omega]
    · rw [if_neg hjk]
/-- The flat cells of n runners. -/
def whoL (rs : Nat → Rn) (n : Nat) : List Value := (List.range (n * 10)).map fun i => (rnC (rs (i / 10))).getD (i % 10) undef
theorem rnC_getD (r : Rn) (j : Nat) (h : j < 10) : (rnC r)[j]? = some ((rnC r).getD j undef) := by
  have h' : j < (rnC r).size := h
  simp [h']
theorem whoL_get (rs : Nat → Rn) (n i j : Nat) (hi : i < n) (hj : j < 10) : (whoL rs n)[i * 10 + j]? = (rnC (rs i))[j]? := by
  rw [rnC_getD _ _ hj]
  have h : i * 10 + j < n * 10 := by omega
  simp [whoL, h, show (i * 10 + j) / 10 = i by omega, show (i * 10 + j) % 10 = j by omega]
theorem whoL_length (rs : Nat → Rn) (n : Nat) : (whoL rs n).length = n * 10 := by simp [whoL]
theorem whoL_snoc (rs : Nat → Rn) (n : Nat) (r : Rn) : whoL rs n ++ (rnC r).toList = whoL (updN rs n r) (n + 1) := by
  have hs : (rnC r).toList.length = 10 := rfl
  apply List.ext_getElem?
  intro i
  rcases Nat.lt_or_ge i (n * 10) with hi | hi
  · rw [List.getElem?_append_left (by rw [whoL_length]; exact hi)]
    have e : i = (i / 10) * 10 + i % 10 := by omega
    rw [e, whoL_get _ _ _ _ (by omega) (by omega), whoL_get _ _ _ _ (by omega) (by omega)]
    unfold updN
    rw [if_neg (by omega)]
  · rw [List.getElem?_append_right (by rw [whoL_length]; exact hi), whoL_length]
    rcases Nat.lt_or_ge i ((n + 1) * 10) with h2 | h2
    · obtain ⟨f, rfl⟩ : ∃ f, i = n * 10 + f := ⟨i - n * 10, by omega⟩
      rw [show n * 10 + f - n * 10 = f by omega, whoL_get _ _ _ _ (by omega) (by omega), Array.getElem?_toList]
      simp [updN]
    · rw [List.getElem?_eq_none (by rw [hs]; omega), List.getElem?_eq_none (by rw [whoL_length]; omega)]
theorem WhoC.take {cur : Array Value} {n : Nat} {rs : Nat → Rn} (h : WhoC cur n rs) (_hs : n * 10 ≤ cur.size) : cur.toList.take (n * 10) = whoL rs n := by
  apply List.ext_getElem?
  intro i
  rcases Nat.lt_or_ge i (n * 10) with hi | hi
  · have e : i = (i / 10) * 10 + i % 10 := by omega
    rw [List.getElem?_take, if_pos hi, Array.getElem?_toList]
    rw [e, whoL_get _ _ _ _ (by omega) (by omega), h _ (by omega) _ (by omega)]
  · rw [List.getElem?_eq_none (by rw [List.length_take]; omega), List.getElem?_eq_none (by rw [whoL_length]; omega)]
theorem WhoC.of_take {cur : Array Value} {n : Nat} {rs : Nat → Rn} (h : cur.toList.take (n * 10) = whoL rs n) : WhoC cur n rs := by
  intro k hk f hf
  have h1 := congrArg (fun l => l[k * 10 + f]?) h
  simp only [List.getElem?_take] at h1
  rw [if_pos (by omega), Array.getElem?_toList, whoL_get _ _ _ _ hk hf] at h1
  exact h1
theorem whoL_cell (rs : Nat → Rn) (n : Nat) : ∀ u ∈ whoL rs n, u.oneCell' = true := by
  intro u hu
  simp only [whoL, List.mem_map, List.mem_range] at hu
  obtain ⟨i, _, rfl⟩ := hu
  refine rnC_cell (rs (i / 10)) _ ?_
  exact Array.mem_toList_iff.2 (Array.mem_of_getElem? (rnC_getD _ _ (by omega)))

/-- The channels. -/
def pipesA (n : Nat) (hv : Nat → Value) (cl : Nat → Bool) : Array Value := (Array.range (n * 2)).map fun i => if i % 2 = 0 then hv (i / 2) else .bool (cl (i / 2))
@[go_sem] theorem pipesA_size (n : Nat) (hv : Nat → Value) (cl : Nat → Bool) : (pipesA n hv cl).size = n * 2 := by simp [pipesA]
theorem pipesA_hv (n : Nat) (hv : Nat → Value) (cl : Nat → Bool) (c : Nat) (h : c < n) : (pipesA n hv cl)[c * 2]? = some (hv c) := by
  have : c * 2 < n * 2 := by omega
  simp [pipesA, this]
theorem pipesA_cl (n : Nat) (hv : Nat → Value) (cl : Nat → Bool) (c : Nat) (h : c < n) : (pipesA n hv cl)[c * 2 + 1]? = some (.bool (cl c)) := by
  have h1 : c * 2 + 1 < n * 2 := by omega
  have h2 : (c * 2 + 1) / 2 = c := by omega
  have h3 : (c * 2 + 1) % 2 = 1 := by omega
  simp [pipesA, h1, h2, h3]
theorem pipesA_other (n : Nat) (hv : Nat → Value) (cl : Nat → Bool) (i : Nat) : (pipesA n hv cl)[i]? = if i < n * 2 then some (if i % 2 = 0 then hv (i / 2) else .bool (cl (i / 2))) else none := by
  by_cases h : i < n * 2 <;> simp [pipesA, h]
theorem pipesA_setH (n : Nat) (hv : Nat → Value) (cl : Nat → Bool) (c : Nat) (v : Value) : (pipesA n hv cl).setIfInBounds (c * 2) v = pipesA n (updN hv c v) cl := by
  apply Array.ext_getElem?
  intro i
  rw [Array.getElem?_setIfInBounds, pipesA_other, pipesA_other, pipesA_size]
  by_cases e : c * 2 = i
  · subst e
    rw [if_pos rfl]
    by_cases h : c * 2 < n * 2
    · simp [updN, h]
    · simp [h]
  · rw [if_neg e]
    by_cases h : i < n * 2
    · rw [if_pos h, if_pos h]
      by_cases h2 : i % 2 = 0
      · rw [if_pos h2, if_pos h2]
        unfold updN
        rw [if_neg (by omega)]
      · rw [if_neg h2, if_neg h2]
    · rw [if_neg h, if_neg h]
theorem pipesA_setC (n : Nat) (hv : Nat → Value) (cl : Nat → Bool) (c : Nat) (b : Bool) : (pipesA n hv cl).setIfInBounds (c * 2 + 1) (.bool b) = pipesA n hv (updN cl c b) := by
  apply Array.ext_getElem?
  intro i
  rw [Array.getElem?_setIfInBounds, pipesA_other, pipesA_other, pipesA_size]
  by_cases e : c * 2 + 1 = i
  · subst e
    rw [if_pos rfl]
    by_cases h : c * 2 + 1 < n * 2
    · rw [if_pos h, if_pos h, if_neg (by omega)]
      unfold updN
      rw [if_pos (by omega)]
    · rw [if_neg h, if_neg h]
  · rw [if_neg e]
    by_cases h : i < n * 2
    · rw [if_pos h, if_pos h]
      by_cases h2 : i % 2 = 0
      · rw [if_pos h2, if_pos h2]
      · rw [if_neg h2, if_neg h2]
        unfold updN
        rw [if_neg (by omega)]
    · rw [if_neg h, if_neg h]
theorem pipesA_congr {n : Nat} {hv hv' : Nat → Value} {cl cl' : Nat → Bool} (h1 : ∀ c, c < n → hv c = hv' c) (h2 : ∀ c, c < n → cl c = cl' c) : pipesA n hv cl = pipesA n hv' cl' := by
  apply Array.ext_getElem?
  intro i
  rw [pipesA_other, pipesA_other]
  by_cases h : i < n * 2
  · rw [if_pos h, if_pos h, h1 _ (by omega), h2 _ (by omega)]
  · rw [if_neg h, if_neg h]

def lE (E : List Ev) : Nat → Ev := fun i => E.getD i default
theorem evL_snoc (E : List Ev) (e : Ev) : evL (lE E) E.length ++ (evC e).toList = evL (lE (E ++ [e])) (E ++ [e]).length := by
  have hs : (evC e).toList.length = 5 := rfl
  apply List.ext_getElem?
  intro i
  simp only [List.length_append, List.length_singleton]
  rcases Nat.lt_or_ge i (E.length * 5) with hi | hi
  · rw [List.getElem?_append_left (by rw [evL_length]; exact hi)]
    have e' : i = (i / 5) * 5 + i % 5 := by omega
    rw [e', evL_get _ _ _ _ (by omega) (by omega), evL_get _ _ _ _ (by omega) (by omega)]
    unfold lE
    rw [List.getD_eq_getElem?_getD, List.getD_eq_getElem?_getD, List.getElem?_append_left (by omega)]
  · rw [List.getElem?_append_right (by rw [evL_length]; exact hi), evL_length]
    rcases Nat.lt_or_ge i ((E.length + 1) * 5) with h2 | h2
    · obtain ⟨f, rfl⟩ : ∃ f, i = E.length * 5 + f := ⟨i - E.length * 5, by omega⟩
      rw [show E.length * 5 + f - E.length * 5 = f by omega, evL_get _ _ _ _ (by omega) (by omega), Array.getElem?_toList]
      simp [lE]
    · rw [List.getElem?_eq_none (by rw [hs]; omega), List.getElem?_eq_none (by rw [evL_length]; omega)]

/-- What lies beside the known blocks: the events, the queues. -/
structure Rw where
  evs : Value
  E : List Ev
  nr : Nat
  hv : Nat → Value
  held : Nat → List Int
structure OM (w W : World) (L : List Ent) (r : Rw) : Prop where
  own : Own w W [] L
  evr : W.ownsRow w.heap.size 37 5 r.evs r.E.length (evL (lE r.E) r.E.length)
  hr : ∀ c, c < r.nr → HRow w.heap.size W (r.hv c) (r.held c)
  apE : ∀ q ∈ L, r.evs.ownBlock ≠ some q.1
  apH : ∀ c, c < r.nr → ∀ q ∈ L, (r.hv c).ownBlock ≠ some q.1
  apHH : ∀ c c', c < r.nr → c' < r.nr → c ≠ c' → ∀ g, (r.hv c).ownBlock = some g → (r.hv c').ownBlock ≠ some g
section
variable {w W W' : World} {L : List Ent} {r : Rw}
theorem OM.evs_lt (h : OM w W L r) {g : Nat} (hg : r.evs.ownBlock = some g) : g < W.heap.size := (h.evr.lt g hg).2
theorem OM.hv_lt (h : OM w W L r) {c g : Nat} (hc : c < r.nr) (hg : (r.hv c).ownBlock = some g) : g < W.heap.size := by
  obtain ⟨_, cur, hb⟩ := (h.hr c hc).own hg
  exact hb.lt
theorem ownsRow_keeps {base e size : Nat} {v : Value} {n : Nat} {xs : List Value} {S : List Nat} (h : W.ownsRow base e size v n xs) (k : Keeps W W' S) (hS : ∀ g, v.ownBlock = some g → g ∉ S) : W'.ownsRow base e size v n xs := by
  refine ⟨h.1, ?_⟩
  rcases h.2 with hn | ⟨g, cap, cur, rfl, hb, hgg, rest⟩
  · exact .inl hn
  · refine .inr ⟨g, cap, cur, rfl, hb, ?_, rest⟩
    rw [k.block g (Array.getElem?_eq_some_iff.1 hgg).1 (hS g rfl)]
    exact hgg
/-- The world goes on: only blocks of the list are written, or made. -/
theorem OM.step (h : OM w W L r) {S : List Nat} {L' : List Ent} (O : Own w W' [] L') (k : Keeps W W' S) (hS : ∀ g ∈ S, ∃ q ∈ L, q.1 = g) (hL : ∀ q ∈ L', (∃ p ∈ L, p.1 = q.1) ∨ W.heap.size ≤ q.1) : OM w W' L' r := by
  refine ⟨O, ownsRow_keeps h.evr k fun g hg hm => ?_, fun c hc => (h.hr c hc).keeps k fun g hg hm => ?_, fun q hq e => ?_, fun c hc q hq e => ?_, h.apHH⟩
  · obtain ⟨q, hq, rfl⟩ := hS g hm
    exact h.apE q hq hg
  · obtain ⟨q, hq, rfl⟩ := hS g hm
    exact h.apH c hc q hq hg
  · rcases hL q hq with ⟨p, hp, hpq⟩ | hge
    · exact h.apE p hp (by rw [hpq]; exact e)
    · have := h.evs_lt e
      omega
  · rcases hL q hq with ⟨p, hp, hpq⟩ | hge
    · exact h.apH c hc p hp (by rw [hpq]; exact e)
    · have := h.hv_lt hc e
      omega
theorem OM.keeps (h : OM w W L r) (k : Keeps W W' []) : OM w W' L r := h.step (h.own.keeps k) k (by simp) fun q hq => .inl ⟨q, hq, rfl⟩
theorem OM.add (h : OM w W L r) {t : TypeId} {cs : Array Value} (k : Keeps W W' []) (b : Blk W' W.heap.size t cs) : OM w W' ((W.heap.size, t, cs) :: L) r :=
  h.step (h.own.add k b) k (by simp) fun q hq => by
    rcases List.mem_cons.1 hq with rfl | hq
    · exact .inr (Nat.le_refl _)
    · exact .inl ⟨q, hq, rfl⟩
theorem OM.get (h : OM w W L r) (k : Nat) {g t : Nat} {cs : Array Value} (hk : L[k]? = some (g, t, cs)) : Blk W g t cs := h.own.get k hk
theorem OM.set (h : OM w W L r) (k : Nat) {g t : Nat} {cs cs' : Array Value} (hk : L[k]? = some (g, t, cs)) (hw : Keeps W W' [g]) (b : Blk W' g t cs') : OM w W' (L.set k (g, t, cs')) r := by
  refine h.step (h.own.set k hk hw b) hw (fun x hx => ?_) fun q hq => ?_
  · obtain rfl : x = g := by simpa using hx
    exact ⟨_, List.mem_of_getElem? hk, rfl⟩
  · rcases List.mem_or_eq_of_mem_set hq with hq | rfl
    · exact .inl ⟨q, hq, rfl⟩
    · exact .inl ⟨_, List.mem_of_getElem? hk, rfl⟩
theorem OM.put (h : OM w W L r) (k : Nat) {g t : Nat} {cs cs' : Array Value} (hk : L[k]? = some (g, t, cs)) (e : cs = cs') : OM w W (L.set k (g, t, cs')) r := by
  subst e
  exact h.set k hk (Keeps.refl _ _) (h.get k hk)
theorem OM.drop_ (h : OM w W L r) (n : Nat) : OM w W (L.drop n) r := h.step (h.own.drop_ n) (Keeps.refl _ []) (by simp) fun q hq => .inl ⟨q, List.mem_of_mem_drop hq, rfl⟩
end
section
variable {P : Program} {ops : Array Oper} {rest : List Oper} {o : Oper} {a : Act} {w W : World} {Q : Exit → Act → World → Prop} {L : List Ent} {r : Rw} {T ty : TypeId} {g : Nat} {t : TypeId} {cs cs' : Array Value} {x y z : Operand}
theorem om_alloc (d : Nat) (cs : Array Value) (M : OM w W L r) (_hd : o.dst = some d) (hgd : o.guard = none) (ho : o.op = .alloc T) (hz : ∀ w, (zeroValue T).run P w = .ok (.agg cs) w)
    (h : ∀ u g, OM w u ((g, T, cs) :: L) r → wpList P ops Q rest (a.put o.dst (.pointer (some ⟨g, 0, none⟩))) u) : wpList P ops Q (o :: rest) a W :=
  wpList_alloc d cs _hd hgd ho hz fun u k b _ => h u _ (M.add k b)
theorem om_alloc1 (d : Nat) (v : Value) (M : OM w W L r) (_hd : o.dst = some d) (hgd : o.guard = none) (ho : o.op = .alloc T) (hz : ∀ w, (zeroValue T).run P w = .ok v w) (hv : v.cells = #[v])
    (h : ∀ u g, OM w u ((g, T, #[v]) :: L) r → wpList P ops Q rest (a.put o.dst (.pointer (some ⟨g, 0, none⟩))) u) : wpList P ops Q (o :: rest) a W := by
  refine wpList_plain hgd fun K hK => ?_
  have hr : (Instr.alloc T true (.tuple #[])).run P W = .ok (.pointer (some ⟨W.heap.size, 0, none⟩)) (W.alloc (.cells #[v] T)) := by
    simp [Instr.alloc, hz W, newVar, newRow, hv]
  unfold Oper.wp execOp
  simp only [ho, Sem.run_bind, hr, Result.andThen_ok, Sem.run_pure]
  exact hK _ _ (h _ _ (M.add ((Keeps.refl _ _).alloc _) (Blk.new _ _ _)))
theorem om_box (d : Nat) (cs : Array Value) (M : OM w W L r) (_hd : o.dst = some d) (hgd : o.guard = none) (ho : o.op = .box T x) (hx : a.eval x = .agg cs)
    (h : ∀ u g, OM w u ((g, T, cs) :: L) r → wpList P ops Q rest (a.put o.dst (.pointer (some ⟨g, 0, none⟩))) u) : wpList P ops Q (o :: rest) a W :=
  wpList_box d cs _hd hgd ho hx fun u k b _ => h u _ (M.add k b)
theorem om_box1 (d : Nat) (v : Value) (M : OM w W L r) (_hd : o.dst = some d) (hgd : o.guard = none) (ho : o.op = .box T x) (hx : a.eval x = v) (hv : v.cells = #[v])
    (h : ∀ u g, OM w u ((g, T, #[v]) :: L) r → wpList P ops Q rest (a.put o.dst (.pointer (some ⟨g, 0, none⟩))) u) : wpList P ops Q (o :: rest) a W := by
  refine wpList_plain hgd fun K hK => ?_
  have hr : (Instr.box T v).run P W = .ok (.pointer (some ⟨W.heap.size, 0, none⟩)) (W.alloc (.cells #[v] T)) := by
    simp [Instr.box, newVar, newRow, hv]
  unfold Oper.wp execOp
  simp only [ho, hx, Sem.run_bind, hr, Result.andThen_ok, Sem.run_pure]
  exact hK _ _ (h _ _ (M.add ((Keeps.refl _ _).alloc _) (Blk.new _ _ _)))
theorem om_load (d k : Nat) (M : OM w W L r) (_hd : o.dst = some d) (hgd : o.guard = none) (ho : o.op = .load ty x) (hx : a.eval x = .pointer (some ⟨g, 0, none⟩)) (hk : L[k]? = some (g, t, cs)) {e : TypeDesc}
    (hu : P.underlying ty = some e) (he : (match e with | .struct _ | .array _ _ => true | _ => false) = true) (hi : (P.info? ty).map (·.size) = some cs.size)
    (h : wpList P ops Q rest (a.put o.dst (.agg cs)) W) : wpList P ops Q (o :: rest) a W := own_load d k M.own _hd hgd ho hx hk hu he hi h
theorem om_store_row (k : Nat) (y z : Operand) (M : OM w W L r) (hgd : o.guard = none) (hdst : o.dst = none) (ho : o.op = .store ty y z) (hy : a.eval y = .pointer (some ⟨g, 0, none⟩)) (hz : a.eval z = .agg cs') (hk : L[k]? = some (g, t, cs))
    (hi : (P.info? ty).map (·.size) = some cs'.size) (hs : cs.size = cs'.size) (h1 : ∀ v ∈ cs'.toList, v.oneCell' = true)
    (h : ∀ u, OM w u (L.set k (g, t, cs')) r → wpList P ops Q rest a u) : wpList P ops Q (o :: rest) a W :=
  wpList_store_row y z hgd hdst ho hy hz (M.get k hk) hi hs h1 fun u kp b => h u (M.set k hk kp b)
theorem om_store (k i : Nat) (v : Value) (y z : Operand) (M : OM w W L r) (hgd : o.guard = none) (hdst : o.dst = none) (ho : o.op = .store ty y z) (hy : a.eval y = .pointer (some ⟨g, i, none⟩)) (hz : a.eval z = v) (hk : L[k]? = some (g, t, cs))
    (hi : i < cs.size) (hx : v.cells = #[v]) (h1 : v.oneCell' = true) (hs : (P.info? ty).map (·.size) = some 1) (he : cs.setIfInBounds i v = cs')
    (h : ∀ u, OM w u (L.set k (g, t, cs')) r → wpList P ops Q rest a u) : wpList P ops Q (o :: rest) a W :=
  wpList_store_blk g i t cs v hgd hdst ho hy hz (M.get k hk) hi hx h1 hs fun u kp b => h u (M.set k hk kp (by rw [← he]; exact b))
end
theorem grown_keeps {w w' : World} {v : Value} (g : w.grownBy w' v.ownBlock) : Keeps w w' (v.ownBlock.toList) := ⟨g.os, g.tape, g.output, g.size, fun b hb' hn => g.block b hb' (by intro e; exact hn (by rw [← e]; simp))⟩
section
variable {w W W' : World} {L : List Ent} {r : Rw}
/-- One of the rows beside has grown. -/
theorem OM.own_grown (M : OM w W L r) {v : Value} (g : W.grownBy W' v.ownBlock) (hb : ∀ b, v.ownBlock = some b → w.heap.size ≤ b) (hap : ∀ q ∈ L, v.ownBlock ≠ some q.1) : Own w W' [] L := by
  have k := grown_keeps g
  refine ⟨M.own.keep.trans k fun b hb' hlt => ?_, fun q hq => (M.own.blk q hq).keeps k fun hm => ?_, M.own.new, M.own.nd⟩
  · have := hb b (by simpa using hb')
    omega
  · exact hap q hq (by simpa using hm)
theorem OM.tell (M : OM w W L r) {v' : Value} {e : Ev} (g : W.grownBy W' r.evs.ownBlock) (h : W'.ownsRow w.heap.size 37 5 v' (r.E.length + 1) (evL (lE r.E) r.E.length ++ (evC e).toList)) (hf : v'.ownBlock = r.evs.ownBlock ∨ v'.ownBlock = some W.heap.size) : OM w W' L { r with evs := v', E := r.E ++ [e] } := by
  have O := M.own_grown g (fun b hb => (M.evr.lt b hb).1) M.apE
  refine ⟨O, ?_, fun c hc => (M.hr c hc).keeps (grown_keeps g) fun b hb hm => ?_, fun q hq he => ?_, M.apH, M.apHH⟩
  · rw [evL_snoc] at h
    simpa using h
  · have hm' : r.evs.ownBlock = some b := by simpa using hm
    obtain ⟨_, cur, h1⟩ := (M.hr c hc).own hb
    rcases M.evr.2 with ⟨e0, _⟩ | ⟨g', cap, cur', e0, _, h2, _⟩
    · rw [e0] at hm'; cases hm'
    · rw [e0] at hm'
      simp [Value.ownBlock] at hm'
      subst hm'
      rw [Blk, h2] at h1
      cases h1
  · rcases hf with hf | hf
    · exact M.apE q hq (by rw [← hf]; exact he)
    · have h1 : some W.heap.size = some q.1 := by rw [← hf]; exact he
      have h2 := (M.own.blk q hq).lt
      simp only [Option.some.injEq] at h1
      omega
theorem updN_same {α : Type} (f : Nat → α) (i : Nat) (x : α) : updN f i x i = x := by simp [updN]
theorem updN_other {α : Type} (f : Nat → α) (i j : Nat) (x : α) (h : j ≠ i) : updN f i x j = f j := by simp [updN, h]
theorem OM.push (M : OM w W L r) {c : Nat} {v' : Value} {l : List Int} (hc : c < r.nr) (g : W.grownBy W' (r.hv c).ownBlock) (h : HRow w.heap.size W' v' l) (hf : v'.ownBlock = (r.hv c).ownBlock ∨ v'.ownBlock = some W.heap.size) : OM w W' L { r with hv := updN r.hv c v', held := updN r.held c l } := by
  have O := M.own_grown g (fun b hb => ((M.hr c hc).own hb).1) (M.apH c hc)
  have new : ∀ c', c' < r.nr → c' ≠ c → ∀ b, v'.ownBlock = some b → (r.hv c').ownBlock ≠ some b := fun c' hc' hne b hb he => by
    rcases hf with hf | hf
    · exact M.apHH c c' hc hc' (fun e => hne e.symm) b (by rw [← hf]; exact hb) he
    · have h1 : some W.heap.size = some b := by rw [← hf]; exact hb
      have h2 := M.hv_lt hc' he
      simp only [Option.some.injEq] at h1
      omega
  refine ⟨O, ownsRow_keeps M.evr (grown_keeps g) fun b hb hm => ?_, fun c' hc' => ?_, M.apE, fun c' hc' q hq he => ?_, fun c1 c2 h1 h2 hne b hb he => ?_⟩
  · have hm' : (r.hv c).ownBlock = some b := by simpa using hm
    obtain ⟨_, cur, h1⟩ := (M.hr c hc).own hm'
    rcases M.evr.2 with ⟨e0, _⟩ | ⟨g', cap, cur', e0, _, h2, _⟩
    · rw [e0] at hb; cases hb
    · rw [e0] at hb
      simp [Value.ownBlock] at hb
      subst hb
      rw [Blk, h2] at h1
      cases h1
  · show HRow w.heap.size W' (updN r.hv c v' c') (updN r.held c l c')
    by_cases e : c' = c
    · subst e
      rw [updN_same, updN_same]
      exact h
    · rw [updN_other _ _ _ _ e, updN_other _ _ _ _ e]
      exact (M.hr c' hc').keeps (grown_keeps g) fun b hb hm => M.apHH c' c hc' hc e b hb (by simpa using hm)
  · have he' : (updN r.hv c v' c').ownBlock = some q.1 := he
    by_cases e : c' = c
    · subst e
      rw [updN_same] at he'
      rcases hf with hf | hf
      · exact M.apH c' hc q hq (by rw [← hf]; exact he')
      · have h1 : some W.heap.size = some q.1 := by rw [← hf]; exact he'
        have h2 := (M.own.blk q hq).lt
        simp only [Option.some.injEq] at h1
        omega
    · rw [updN_other _ _ _ _ e] at he'
      exact M.apH c' hc' q hq he'
  · have hb' : (updN r.hv c v' c1).ownBlock = some b := hb
    have he' : (updN r.hv c v' c2).ownBlock = some b := he
    by_cases e1 : c1 = c
    · subst e1
      rw [updN_same] at hb'
      rw [updN_other _ _ _ _ (fun e => hne e.symm)] at he'
      exact new c2 h2 (fun e => hne e.symm) b hb' he'
    · rw [updN_other _ _ _ _ e1] at hb'
      by_cases e2 : c2 = c
      · subst e2
        rw [updN_same] at he'
        exact new c1 h1 e1 b he' hb'
      · rw [updN_other _ _ _ _ e2] at he'
        exact M.apHH c1 c2 h1 h2 hne b hb' he'
theorem OM.pop (M : OM w W L r) {c : Nat} {v' : Value} {l : List Int} (hc : c < r.nr) (h : HRow w.heap.size W v' l) (hf : v'.ownBlock = (r.hv c).ownBlock) : OM w W L { r with hv := updN r.hv c v', held := updN r.held c l } :=
  M.push hc ⟨rfl, rfl, rfl, Nat.le_refl _, fun _ _ _ => rfl⟩ h (.inl hf)
/-- A known row of the list has grown. -/
theorem OM.regrow (M : OM w W L r) (k : Nat) {b b' t : Nat} {cs cs' : Array Value} (hk : L[k]? = some (b, t, cs)) (hb : w.heap.size ≤ b) (g : W.grownBy W' (some b)) (hB : Blk W' b' t cs') (hf : b' = b ∨ b' = W.heap.size) : OM w W' (L.set k (b', t, cs')) r := by
  have kp : Keeps W W' [b] := ⟨g.os, g.tape, g.output, g.size, fun x hx hn => g.block x hx (by intro e; exact hn (by simpa using e))⟩
  rcases hf with rfl | rfl
  · exact M.set k hk kp hB
  · have hlt : k < L.length := (List.getElem?_eq_some_iff.1 hk).1
    have k0 : Keeps w W' [] := M.own.keep.trans kp fun x hx hlt' => by
      obtain rfl : x = b := by simpa using hx
      omega
    have far : ∀ (i : Nat) (q : Ent), L[i]? = some q → i ≠ k → q.1 ≠ b := fun i q hi hne => M.own.apart hi hk hne
    have cases_ : ∀ q ∈ L.set k (W.heap.size, t, cs'), q = (W.heap.size, t, cs') ∨ (q ∈ L ∧ q.1 ≠ b) := fun q hq => by
      obtain ⟨i, hi⟩ := List.getElem?_of_mem hq
      rw [List.getElem?_set] at hi
      by_cases hki : k = i
      · subst hki
        rw [if_pos rfl, if_pos hlt] at hi
        cases hi
        exact .inl rfl
      · rw [if_neg hki] at hi
        exact .inr ⟨List.mem_of_getElem? hi, far i q hi (fun e => hki e.symm)⟩
    refine M.step (S := [b]) ⟨k0, fun q hq => ?_, fun q hq hlt' => ?_, ?_⟩ kp (fun x hx => ?_) fun q hq => ?_
    · rcases cases_ q hq with rfl | ⟨hq, hne⟩
      · exact hB
      · exact (M.own.blk q hq).keeps kp (by simpa using hne)
    · rcases cases_ q hq with rfl | ⟨hq, hne⟩
      · have := M.own.keep.size
        simp only at hlt'
        omega
      · exact M.own.new q hq hlt'
    · rw [List.nodup_iff_pairwise_ne, List.pairwise_iff_getElem]
      intro i j hi hj hij
      have hi' : i < L.length := by simpa using hi
      have hj' : j < L.length := by simpa using hj
      have lt : ∀ x (hx : x < L.length), L[x].1 < W.heap.size := fun x hx => (M.own.blk _ (List.getElem_mem hx)).lt
      have nd := List.pairwise_iff_getElem.1 M.own.nd i j (by simpa using hi') (by simpa using hj') hij
      simp only [List.getElem_map] at nd
      simp only [List.getElem_map, List.getElem_set]
      have l1 := lt i hi'
      have l2 := lt j hj'
      by_cases e1 : k = i
      · rw [if_pos e1, if_neg (by omega)]
        simp only
        omega
      · rw [if_neg e1]
        by_cases e2 : k = j
        · rw [if_pos e2]
          simp only
          omega
        · rw [if_neg e2]
          exact nd
    · obtain rfl : x = b := by simpa using hx
      exact ⟨_, List.mem_of_getElem? hk, rfl⟩
    · rcases cases_ q hq with rfl | ⟨hq, _⟩
      · exact .inr (Nat.le_refl _)
      · exact .inl ⟨q, hq, rfl⟩
end
end Go.Proofs.Ytakmcpadkanggaa

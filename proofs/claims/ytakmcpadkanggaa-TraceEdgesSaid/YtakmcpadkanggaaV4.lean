/-
  What (*links).next works on: the links, its own row, the event; how each operation turns it.
-/
import Derived.Test.YtakmcpadkanggaaV3
namespace Go.Proofs.Ytakmcpadkanggaa
open Go.RowKit Go.Maps Go.Deep

theorem HRow.listL {base : Nat} {W : World} {v : Value} {xs : List Int} (h : HRow base W v xs) : IntL W v xs ∧ ∀ n c, v = .slice none n c → n = 0 ∧ c = 0 := by
  rcases h with ⟨rfl, rfl⟩ | ⟨g, off, cap, cur, rfl, hb, hB, h1, h2, h3, h4⟩
  · exact ⟨IntL.nil W, fun n c e => by cases e; exact ⟨rfl, rfl⟩⟩
  · exact ⟨⟨_, cap, rfl, fun _ => ⟨_, rfl, hB.lt, fun j hj => by rw [Addr.add_mid, hB.cell]; exact h4 j hj⟩⟩, fun n c e => by cases e⟩
section
variable {w W u : World} {S : List Nat} {L : List Ent}
theorem Own.wrote (O : Own w W S L) {T : List Nat} (k : Keeps W u T) (hT : ∀ b ∈ T, b < w.heap.size → b ∈ S) (hL : ∀ q ∈ L, q.1 ∉ T) : Own w u S L :=
  ⟨O.keep.trans k (fun b hb hlt => hT b hb hlt), fun q hq => (O.blk q hq).keeps k (hL q hq), O.new, O.nd⟩
end
theorem grown_keepsV {w w' : World} {v : Value} (g : w.grownBy w' v.ownBlock) : Keeps w w' (v.ownBlock.toList) := ⟨g.os, g.tape, g.output, g.size, fun b hb' hn => g.block b hb' (by intro e; exact hn (by rw [← e]; simp))⟩
structure NX (w W : World) (F F' : List Nat) (rooms : Value) (p : Nat) (mb : Nat → Nat) (f : Nat → Int → Option Value) (k : Lk) (m base : Nat) (L : List Ent) (r : Value) (fr : List Int) : Prop where
  own : Own w W F L
  at_ : LinksAt W F' rooms p mb f k m base
  row : Mint w.heap.size W r fr
  new : ∀ b ∈ F', b ∈ F ∨ w.heap.size ≤ b
  old : ∀ b ∈ F, b < w.heap.size
  ap : ∀ g, r.ownBlock = some g → g ∉ F'
  apL : ∀ q ∈ L, q.1 ∉ F'
  mF : ∀ i, i < 7 → mb i ∈ F
  pw : p < w.heap.size
section
variable {w W u : World} {F F' : List Nat} {rooms : Value} {p : Nat} {mb : Nat → Nat} {f : Nat → Int → Option Value} {k : Lk} {m base : Nat} {L : List Ent} {r : Value} {fr : List Int}
theorem NX.kept (h : NX w W F F' rooms p mb f k m base L r fr) (K : Keeps W u []) : NX w u F F' rooms p mb f k m base L r fr :=
  ⟨h.own.keeps K, h.at_.kept K (by simp), h.row.keeps K (by simp), h.new, h.old, h.ap, h.apL, h.mF, h.pw⟩
theorem NX.drop_ (h : NX w W F F' rooms p mb f k m base L r fr) (n : Nat) : NX w W F F' rooms p mb f k m base (L.drop n) r fr :=
  ⟨h.own.drop_ n, h.at_, h.row, h.new, h.old, h.ap, fun q hq => h.apL q (List.mem_of_mem_drop hq), h.mF, h.pw⟩
/-- A block of one's own more. -/
theorem NX.add (h : NX w W F F' rooms p mb f k m base L r fr) {g t : Nat} {cs : Array Value} (O : Own w u F ((g, t, cs) :: L)) (K : Keeps W u []) (hg : W.heap.size ≤ g) : NX w u F F' rooms p mb f k m base ((g, t, cs) :: L) r fr :=
  ⟨O, h.at_.kept K (by simp), h.row.keeps K (by simp), h.new, h.old, h.ap, fun q hq => by
    rcases List.mem_cons.1 hq with rfl | hq
    · intro hm
      have := (h.at_.ltF _ hm).2
      omega
    · exact h.apL q hq, h.mF, h.pw⟩
end
theorem HRow.shape {base : Nat} {W : World} {v : Value} {xs : List Int} (h : HRow base W v xs) : ∃ A c, v = .slice A xs.length c ∧ ∀ q, q < xs.length → ∃ ad, A = some ad ∧ W.cell? (ad.add q) = some (.int .i64 (xs.getD q 0)) := by
  obtain ⟨A, c, e, _, _, hc⟩ := h.cells
  exact ⟨A, c, e, fun q hq => by obtain ⟨ad, e', hx⟩ := hc (by omega); exact ⟨ad, e', hx q hq⟩⟩
theorem HRow.cellOf {base : Nat} {W : World} {ad : Addr} {n c : Nat} {xs : List Int} (h : HRow base W (.slice (some ad) n c) xs) {q : Nat} (hq : q < xs.length) : W.cell? (ad.add q) = some (.int .i64 (xs.getD q 0)) := by
  obtain ⟨A, c', e, hx⟩ := h.shape
  injection e with e1 _ _
  subst e1
  obtain ⟨ad', e', h'⟩ := hx q hq
  cases e'
  exact h'
/-- A row of the links has grown, its map is not yet written. -/
def PX (w u : World) (F F' : List Nat) (rooms : Value) (p : Nat) (mb : Nat → Nat) (f : Nat → Int → Option Value) (k : Lk) (m base : Nat) (L : List Ent) (r : Value) (fr : List Int) (i : Nat) (key : Int) (v' : Value) (xs' : List Int) : Prop :=
  ∃ W0, NX w W0 F F' rooms p mb f k m base L r fr ∧ Keeps W0 u (rowV f i key).ownBlock.toList ∧ HRow base u v' xs' ∧ (v'.ownBlock = (rowV f i key).ownBlock ∨ ∀ g, v'.ownBlock = some g → W0.heap.size ≤ g)
/-- What the reading needs. -/
structure S3 (u : World) (p : Nat) (rooms : Value) (mb : Nat → Nat) (f : Nat → Int → Option Value) (m b5 : Nat) (cs : Array Value) : Prop where
  ev : Blk u b5 37 cs
  blk : Blk u p 161 (linksC rooms mb)
  maps : ∀ i, i < 7 → MapV u (mb i) m (f i)
section
variable {w W u : World} {F F' : List Nat} {rooms : Value} {p : Nat} {mb : Nat → Nat} {f : Nat → Int → Option Value} {k : Lk} {m base : Nat} {L : List Ent} {r : Value} {fr : List Int} {b5 : Nat} {cs : Array Value} {i : Nat} {key : Int} {v' : Value} {xs' : List Int}
theorem NX.s3 (h : NX w W F F' rooms p mb f k m base L r fr) (hb : (b5, 37, cs) ∈ L) : S3 W p rooms mb f m b5 cs := ⟨h.own.blk _ hb, h.at_.blk, h.at_.maps⟩
theorem NX.mapsK (M : NX w W F F' rooms p mb f k m base L r fr) (hi : i < 4) (K : Keeps W u (rowV f i key).ownBlock.toList) : ∀ i', i' < 7 → MapV u (mb i') m (f i') := fun i' hi' => (M.at_.maps i' hi').keeps K fun hm' => by
  have e : (rowV f i key).ownBlock = some (mb i') := by simpa using hm'
  obtain ⟨_, cur, hbb⟩ := (M.at_.rows i hi key).own e
  exact (M.at_.maps i' hi').not_blk hbb rfl
theorem PX.s3 (h : PX w W F F' rooms p mb f k m base L r fr i key v' xs') (hi : i < 4) (hb : (b5, 37, cs) ∈ L) : S3 W p rooms mb f m b5 cs := by
  obtain ⟨W0, M, hk, _⟩ := h
  have hr : ∀ b ∈ (rowV f i key).ownBlock.toList, b ∈ F' := fun b hb => M.at_.inR i hi key b (by simpa using hb)
  exact ⟨(M.own.blk _ hb).keeps hk fun hm => M.apL _ hb (hr _ hm), M.at_.blk.keeps hk fun hm => M.at_.pF (hr _ hm), M.mapsK hi hk⟩
end
/-- The row behind an append, of nothing too: the old block or a new one. -/
theorem append_fresh0 {w : World} {P : Program} (base t ty e : Nat) (i : TypeInfo) (z : Value) (size bytes : Nat) (ht : P.underlying t = some (.slice e)) (hi : P.info? e = some i) (hz : i.zero = some z) (hsize : i.size = size) (hby : i.bytes = bytes)
    (v : Value) (n : Nat) (xs : List Value) (hown : w.ownsRow base e size v n xs) (a : Addr) (m c : Nat) (news : List Value) (hl : news.length = m * size) (hnews : ∀ j u, news[j]? = some u → w.cell? (a.add j) = some u) (h1 : ∀ u ∈ news, u.oneCell' = true)
    (h63 : n + m ≤ maxLen) (hbytes : (n + m) * bytes ≤ 140737488355328) {v' : Value} {w' : World} (hr : (Builtin.append_ #[t, t] ty #[v, .slice (some a) m c]).run P w = .ok v' w') (h4 : v' = .slice none 0 0 ↔ v = .slice none 0 0 ∧ m = 0) : v'.ownBlock = v.ownBlock ∨ v'.ownBlock = some w.heap.size := by
  rcases Nat.eq_zero_or_pos m with hm | hm
  · subst hm
    subst hsize
    subst hby
    obtain ⟨hxl, ⟨rfl, rfl⟩ | ⟨g, cap, cur, rfl, hbg, hg, hle, hcm, hcs, htake⟩⟩ := hown
    · rw [h4.2 ⟨rfl, rfl⟩]; exact .inl rfl
    · have hroom : n + 0 ≤ cap := hle
      have hfit : n * i.size + news.length ≤ cur.size := by rw [hl, hcs, ← Nat.add_mul]; exact Nat.mul_le_mul_right _ hroom
      have h := run_append_room (P := P) w t ty e i ht hi g n cap cur hg a 0 c news hl hnews h1 hroom hfit
      rw [hr] at h
      cases h
      exact .inl rfl
  · exact append_fresh base t ty e i z size bytes ht hi hz hsize hby v n xs hown a m c news hl hnews h1 h63 hbytes hm hr
section
variable {ops : Array Oper} {rest : List Oper} {o o2 : Oper} {a : Act} {w W : World} {Q : Exit → Act → World → Prop} {F F' : List Nat} {rooms : Value} {p : Nat} {mb : Nat → Nat} {f : Nat → Int → Option Value} {k : Lk} {m base : Nat} {L : List Ent} {r : Value} {fr : List Int} {x0 s z x y z2 : Operand}
theorem nx_lit (d : Nat) (n0 : Int) (M : NX w W F F' rooms p mb f k m base L r fr) (_hd : o.dst = some d) (hgd : o.guard = none) (ho : o.op = .buildSlice 25 1 #[(0, x0)]) (h0 : a.eval x0 = .int .i64 n0)
    (h : ∀ u g, NX w u F F' rooms p mb f k m base ((g, 3, #[.int .i64 n0]) :: L) r fr → wpList Try.prog ops Q rest (a.put o.dst (.slice (some ⟨g, 0, none⟩) 1 1)) u) : wpList Try.prog ops Q (o :: rest) a W :=
  own_lit1 d n0 M.own _hd hgd ho h0 fun u g O K hg => h u g (M.add O K hg)
/-- The call's own row grows by a list. -/
theorem nx_from (zv : Value) (ys : List Int) (s z : Operand) (M : NX w W F F' rooms p mb f k m base L r fr) (hgd : o.guard = none) (ho : o.op = .call { callee := .builtin .append, args := #[s, z], argTypes := #[25, 25] })
    (hs : a.eval s = r) (hz' : a.eval z = zv) (hI : IntL W zv ys) (h0 : ∀ n c, zv = .slice none n c → n = 0 ∧ c = 0) (hL : ∀ q ∈ L, r.ownBlock ≠ some q.1) (hn : fr.length + ys.length ≤ 5000000)
    (h : ∀ v' u, NX w u F F' rooms p mb f k m base L v' (fr ++ ys) → (∀ q ∈ L, v'.ownBlock ≠ some q.1) → wpList Try.prog ops Q rest (a.put o.dst v') u) : wpList Try.prog ops Q (o :: rest) a W := by
  obtain ⟨i, hi, hz, hsz, hby⟩ := info3
  obtain ⟨A, c, rfl, hc⟩ := hI
  have hbW : w.heap.size ≤ W.heap.size := M.own.keep.size
  rcases A with _ | ad
  · obtain ⟨hn0, rfl⟩ := h0 _ _ rfl
    have hy : ys = [] := List.eq_nil_of_length_eq_zero hn0
    subst hy
    exact wpList_append_own_none hgd s z 25 ho w.heap.size 3 i 1 Try.underlying25 hi r fr.length (fr.map fun x => .int .i64 x) hs M.row hz' (h r W (by rw [List.append_nil]; exact M) hL)
  · have hnews : ∀ j u, (ys.map fun x => Value.int .i64 x)[j]? = some u → W.cell? (ad.add j) = some u := fun j u hu => by
      rw [List.getElem?_map] at hu
      obtain ⟨q, hq, rfl⟩ := Option.map_eq_some_iff.1 hu
      have hj := (List.getElem?_eq_some_iff.1 hq).1
      obtain ⟨ad', e, _, hcc⟩ := hc (by omega)
      cases e
      rw [hcc j hj, List.getD_eq_getElem?_getD, hq]
      rfl
    have h1 : ∀ u ∈ ys.map fun x => Value.int .i64 x, u.oneCell' = true := fun u hu => by obtain ⟨q, _, rfl⟩ := List.mem_map.1 hu; rfl
    obtain ⟨v', u, hr, g2, g3, g4⟩ := run_append_own (P := Try.prog) W w.heap.size 25 o.type 3 i (.int .i64 0) 1 8 Try.underlying25 hi hz hsz hby rfl (by decide) r fr.length _ M.row ad ys.length c _ (by simp) hnews h1 (by simp only [maxLen]; omega) (by omega) hbW
    have hf := append_fresh0 (w := W) (P := Try.prog) w.heap.size 25 o.type 3 i (.int .i64 0) 1 8 Try.underlying25 hi hz hsz hby r fr.length _ M.row ad ys.length c _ (by simp) hnews h1 (by simp only [maxLen]; omega) (by omega) hr g4
    refine wpList_plain hgd fun K hK => ?_
    unfold Oper.wp execOp
    simp only [ho, resolve, invoke, builtin, Sem.run_bind, Sem.run_pure, Result.andThen_ok, List.map_toArray, List.map_cons, List.map_nil, hs, hz', hr]
    have hk := grown_keepsV g3
    have hrF : ∀ b ∈ r.ownBlock.toList, w.heap.size ≤ b ∧ b ∉ F' := fun b hb => by
      have hb' : r.ownBlock = some b := by simpa using hb
      exact ⟨(Mint.own M.row hb').1, M.ap b hb'⟩
    have hap : ∀ g, v'.ownBlock = some g → g ∉ F' ∧ (r.ownBlock = some g ∨ W.heap.size ≤ g) := fun g hg => by
      rcases hf with e | e
      · rw [e] at hg; exact ⟨M.ap g hg, .inl hg⟩
      · rw [e] at hg
        cases hg
        exact ⟨fun hm => by have := (M.at_.ltF _ hm).2; omega, .inr (Nat.le_refl _)⟩
    refine hK _ _ (h _ _ ⟨?_, ?_, ?_, M.new, M.old, fun g hg => (hap g hg).1, M.apL, M.mF, M.pw⟩ ?_)
    · refine M.own.wrote hk (fun b hb hlt => ?_) (fun q hq hm => hL q hq (by simpa using hm))
      have := (hrF b hb).1
      omega
    · exact M.at_.kept hk fun b hb => ⟨(hrF b hb).2, fun e => by have := (hrF b hb).1; have := M.pw; omega⟩
    · unfold Mint; rw [List.length_append, List.map_append]; exact g2
    · intro q hq e
      rcases (hap _ e).2 with h5 | h5
      · exact hL q hq h5
      · have := (M.own.blk q hq).lt
        omega
theorem nx_from1 (y : Int) (gl : Nat) (s z : Operand) (M : NX w W F F' rooms p mb f k m base ((gl, 3, #[.int .i64 y]) :: L) r fr) (hgd : o.guard = none) (ho : o.op = .call { callee := .builtin .append, args := #[s, z], argTypes := #[25, 25] })
    (hs : a.eval s = r) (hz' : a.eval z = .slice (some ⟨gl, 0, none⟩) 1 1) (hL : ∀ q ∈ L, r.ownBlock ≠ some q.1) (hn : fr.length ≤ 1000000)
    (h : ∀ v' u, NX w u F F' rooms p mb f k m base L v' (fr ++ [y]) → (∀ q ∈ L, v'.ownBlock ≠ some q.1) → wpList Try.prog ops Q rest (a.put o.dst v') u) : wpList Try.prog ops Q (o :: rest) a W := by
  refine nx_from (.slice (some ⟨gl, 0, none⟩) 1 1) [y] s z (M.drop_ 1) hgd ho hs hz' ⟨_, 1, rfl, fun _ => ⟨_, rfl, (M.own.get 0 rfl).lt, fun j hj => ?_⟩⟩ (fun n c e => by cases e) hL (by simp; omega) h
  have hj0 : j = 0 := by simpa using hj
  subst hj0
  exact (M.own.get 0 rfl).cell 0
/-- A row of the links has grown by one, and its map is not yet written. -/
theorem nx_app (i : Nat) (key y : Int) (gl : Nat) (s z : Operand) (M : NX w W F F' rooms p mb f k m base ((gl, 3, #[.int .i64 y]) :: L) r fr) (hi : i < 4) (hgd : o.guard = none) (ho : o.op = .call { callee := .builtin .append, args := #[s, z], argTypes := #[25, 25] })
    (hs : a.eval s = rowV f i key) (hz' : a.eval z = .slice (some ⟨gl, 0, none⟩) 1 1) (hn : (k.rows i key).length ≤ 1000000)
    (h : ∀ v' u, PX w u F F' rooms p mb f k m base L r fr i key v' (k.rows i key ++ [y]) → wpList Try.prog ops Q rest (a.put o.dst v') u) :
    wpList Try.prog ops Q (o :: rest) a W := by
  have hb : base ≤ W.heap.size := by
    have := M.at_.ltF _ (M.at_.inM 0 (by decide))
    omega
  obtain ⟨v', u, hr, h2, h3, hf⟩ := run_push (w := W) base o.type (rowV f i key) (k.rows i key) (M.at_.rows i hi key) ⟨gl, 0, none⟩ 1 y ((M.own.get 0 rfl).cell 0) hb hn
  refine wpList_plain hgd fun K hK => ?_
  unfold Oper.wp execOp
  simp only [ho, resolve, invoke, builtin, Sem.run_bind, Sem.run_pure, Result.andThen_ok, List.map_toArray, List.map_cons, List.map_nil, hs, hz', hr]
  refine hK _ _ (h v' u ⟨W, M.drop_ 1, grown_keepsV h3, h2, ?_⟩)
  rcases hf with e | e
  · exact .inl e
  · exact .inr fun g hg => by rw [e] at hg; cases hg; exact Nat.le_refl _
theorem nx_upd (i : Nat) (key : Int) (v' : Value) (xs' : List Int) (T : Nat) (x y2 z2 : Operand) (M : PX w W F F' rooms p mb f k m base L r fr i key v' xs') (hi : i < 4) (hgd2 : o2.guard = none) (hT : Try.prog.underlying T = some (.map 3 25)) (ho2 : o2.op = .mapUpdate T x y2 z2)
    (hx : a.eval x = .map (some (mb i))) (hy : a.eval y2 = .int .i64 key) (hz2 : a.eval z2 = v') (hk : (Lit.int .i64 key).wf = true) (hm : m < maxLen)
    (h : ∀ u F2, NX w u F F2 rooms p mb (updN f i (updI (f i) key (some v'))) ⟨updN k.rows i (updI (k.rows i) key xs'), k.ones⟩ (m + 1) base L r fr → wpList Try.prog ops Q rest (a.put o2.dst undef) u) :
    wpList Try.prog ops Q (o2 :: rest) a W := by
  obtain ⟨W0, M, hk1, h2, hfr⟩ := M
  have hi7 : i < 7 := by omega
  have M1 := M.mapsK hi hk1 i hi7
  refine map_storeV M1 T 25 hT hgd2 ho2 hx hy hk hz2 hm fun u2 K2 M2 => ?_
  have hrow : ∀ b ∈ (rowV f i key).ownBlock.toList, b ∈ F' := fun b hb => M.at_.inR i hi key b (by simpa using hb)
  have hvF : ∀ g, v'.ownBlock = some g → g ∈ F' ∨ W0.heap.size ≤ g := fun g hg => by
    rcases hfr with e | e
    · exact .inl (M.at_.inR i hi key g (by rw [← e]; exact hg))
    · exact .inr (e g hg)
  have lt0 : ∀ q ∈ L, q.1 < W0.heap.size := fun q hq => (M.own.blk q hq).lt
  have hrl : ∀ g, r.ownBlock = some g → g < W0.heap.size := fun g hg => (Mint.own M.row hg).2.1
  refine h u2 _ ⟨?_, M.at_.setRow hi hk1 h2 hfr K2 M2, ?_, fun b hb => ?_, M.old, fun g hg hm' => ?_, fun q hq hm' => ?_, M.mF, M.pw⟩
  · refine (M.own.wrote hk1 (fun b hb hlt => ?_) (fun q hq hm' => M.apL q hq (hrow _ hm'))).wrote K2 (fun b hb hlt => ?_) (fun q hq hm' => ?_)
    · rcases M.new b (hrow b hb) with h' | h'
      · exact h'
      · omega
    · obtain rfl : b = mb i := by simpa using hb
      exact M.mF i hi7
    · have e : q.1 = mb i := by simpa using hm'
      exact M.apL q hq (by rw [e]; exact M.at_.inM i hi7)
  · have hr1 : Mint w.heap.size W r fr := M.row.keeps hk1 fun g hg hm' => M.ap g hg (hrow _ hm')
    exact hr1.keeps K2 fun g hg hm' => by
      obtain rfl : g = mb i := by simpa using hm'
      exact M.ap _ hg (M.at_.inM i hi7)
  · rcases List.mem_append.1 hb with hm' | hm'
    · rcases hvF b (by simpa using hm') with h' | h'
      · exact M.new b h'
      · exact .inr (Nat.le_trans M.own.keep.size h')
    · exact M.new b hm'
  · rcases List.mem_append.1 hm' with hm2 | hm2
    · rcases hvF g (by simpa using hm2) with h' | h'
      · exact M.ap g hg h'
      · have := hrl g hg; omega
    · exact M.ap g hg hm2
  · rcases List.mem_append.1 hm' with hm2 | hm2
    · rcases hvF q.1 (by simpa using hm2) with h' | h'
      · exact M.apL q hq h'
      · have := lt0 q hq; omega
    · exact M.apL q hq hm2
/-- A row of the links is struck. -/
theorem nx_clear (i : Nat) (key : Int) (T : Nat) (x y2 z2 : Operand) (M : NX w W F F' rooms p mb f k m base L r fr) (hi : i < 4) (hgd2 : o2.guard = none) (hT : Try.prog.underlying T = some (.map 3 25)) (ho2 : o2.op = .mapUpdate T x y2 z2) (hx : a.eval x = .map (some (mb i))) (hy : a.eval y2 = .int .i64 key)
    (hz2 : a.eval z2 = .slice none 0 0) (hk : (Lit.int .i64 key).wf = true) (hm : m < maxLen)
    (h : ∀ u, NX w u F F' rooms p mb (updN f i (updI (f i) key (some (.slice none 0 0)))) ⟨updN k.rows i (updI (k.rows i) key []), k.ones⟩ (m + 1) base L r fr → wpList Try.prog ops Q rest (a.put o2.dst undef) u) :
    wpList Try.prog ops Q (o2 :: rest) a W := by
  have hi7 : i < 7 := by omega
  refine map_storeV (M.at_.maps i hi7) T 25 hT hgd2 ho2 hx hy hk hz2 hm fun u2 K2 M2 => h u2 ⟨?_, ?_, ?_, M.new, M.old, M.ap, M.apL, M.mF, M.pw⟩
  · refine M.own.wrote K2 (fun b hb _ => ?_) (fun q hq hm' => ?_)
    · obtain rfl : b = mb i := by simpa using hb
      exact M.mF i hi7
    · have e : q.1 = mb i := by simpa using hm'
      exact M.apL q hq (by rw [e]; exact M.at_.inM i hi7)
  · have := M.at_.setRow (v' := .slice none 0 0) (xs' := []) hi (Keeps.refl W _) (HRow.nil _ _) (.inr fun g hg => by cases hg) K2 M2
    simpa [Value.ownBlock] using this
  · exact M.row.keeps K2 fun g hg hm' => by
      obtain rfl : g = mb i := by simpa using hm'
      exact M.ap _ hg (M.at_.inM i hi7)
/-- One number is noted. -/
theorem nx_one (i : Nat) (key x0 : Int) (T : Nat) (x y2 z2 : Operand) (M : NX w W F F' rooms p mb f k m base L r fr) (hi : 4 ≤ i) (hi7 : i < 7) (hgd2 : o2.guard = none) (hT : Try.prog.underlying T = some (.map 3 3)) (ho2 : o2.op = .mapUpdate T x y2 z2) (hx : a.eval x = .map (some (mb i))) (hy : a.eval y2 = .int .i64 key)
    (hz2 : a.eval z2 = .int .i64 x0) (hk : (Lit.int .i64 key).wf = true) (hm : m < maxLen)
    (h : ∀ u, NX w u F F' rooms p mb (updN f i (updI (f i) key (some (.int .i64 x0)))) ⟨k.rows, updN k.ones i (updI (k.ones i) key (some x0))⟩ (m + 1) base L r fr → wpList Try.prog ops Q rest (a.put o2.dst undef) u) :
    wpList Try.prog ops Q (o2 :: rest) a W := by
  refine map_storeV (M.at_.maps i hi7) T 3 hT hgd2 ho2 hx hy hk hz2 hm fun u2 K2 M2 => h u2 ⟨?_, M.at_.setOne hi hi7 K2 M2, ?_, M.new, M.old, M.ap, M.apL, M.mF, M.pw⟩
  · refine M.own.wrote K2 (fun b hb _ => ?_) (fun q hq hm' => ?_)
    · obtain rfl : b = mb i := by simpa using hb
      exact M.mF i hi7
    · have e : q.1 = mb i := by simpa using hm'
      exact M.apL q hq (by rw [e]; exact M.at_.inM i hi7)
  · exact M.row.keeps K2 fun g hg hm' => by
      obtain rfl : g = mb i := by simpa using hm'
      exact M.ap _ hg (M.at_.inM i hi7)
end
end Go.Proofs.Ytakmcpadkanggaa

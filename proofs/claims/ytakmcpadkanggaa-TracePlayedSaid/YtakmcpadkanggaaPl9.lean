/-
  Part 9 of what this claim rests on.
-/
import Derived.Recover
import Derived.Test.YtakmcpadkanggaaPl8
namespace Go.Proofs.Ytakmcpadkanggaa
open Go.RowKit Go.Maps Go.Deep
section
variable {S : Sys} {p : Nat} {f : Nat → Int}
theorem right_a (h : rightS S p f = true) (ho : f 0 = 1) : 0 ≤ f 1 ∧ f 1 < 8 := by
  unfold rightS at h
  rw [ho] at h; simp [kd, kdL, mayS, bnd, opOk] at h; omega
theorem right_ab (h : rightS S p f = true) (ho : f 0 = 2 ∨ f 0 = 3 ∨ f 0 = 12 ∨ f 0 = 13) : 0 ≤ f 1 ∧ f 1 < 8 ∧ 0 ≤ f 2 ∧ f 2 < 8 := by
  unfold rightS at h
  rcases ho with ho | ho | ho | ho <;> rw [ho] at h <;> simp [kd, kdL, mayS, bnd, opOk] at h <;> omega
theorem right_b (h : rightS S p f = true) (ho : f 0 = 5 ∨ f 0 = 6 ∨ f 0 = 15) : 0 ≤ f 2 ∧ f 2 < 8 := by
  unfold rightS at h
  rcases ho with ho | ho | ho <;> rw [ho] at h <;> simp [kd, kdL, mayS, bnd, opOk] at h <;> omega
theorem right_c (h : rightS S p f = true) (ho : f 0 = 3 ∨ f 0 = 4 ∨ f 0 = 6) : 0 ≤ f 3 := by
  unfold rightS at h
  rcases ho with ho | ho | ho <;> rw [ho] at h <;> simp [kd, kdL, mayS, bnd, opOk] at h <;> omega
end
/-- How a step ends: without a fault, or with a panic of that fault. -/
def stepEnd (x : Int) : Ending := if x = 0 then .returned (.tuple #[]) else .panicked [{ v := .iface 22 (.int .i64 x), recovered := false }]
section
variable {w W : World} {Lr : List Ent} {S : Sys} {A : Option Addr} {c : Nat} {R : Option Addr} {d : Nat} {y : Ly}
theorem step_any {P : PW} {k : Nat} {f : Nat → Int} (h : InW w W S A c R d y Lr P) (hS : SysIn w S A c R d) (hvd : validB S = true) (hr : RInv S P) (hk : k < P.n) (hI : instP S (P.rs k) = some f) (hlk : S.lk = (y.lk : Int)) (hgr : S.gr = (y.gr : Int)) (hce : S.ce = (y.ce : Int))
    (hE : P.ev.length ≤ 100000) (hH : ∀ c, (P.held c).length ≤ 1000000) : Calls Try.prog 91 #[.pointer (some ⟨y.wp, 0, none⟩), .int .i64 (k : Int)] W fun e W' => InW w W' S A c R d y Lr (stepP S P k f).1 ∧ e = stepEnd (stepP S P k f).2 := by
  have hp := hr k hk
  have hrt := right_of hvd hp hI
  have hl : S.lp (P.rs k).prog ≤ 256 := (((validB_iff S).1 hvd).2.2 _ hp).1
  have hce64 : y.ce ≤ 64 := by
    have := ((headB_iff S).1 ((validB_iff S).1 hvd).1).2.2.2.2.2
    rw [shB_iff] at this
    omega
  obtain ⟨gw, cw, cur, evs, hv, M, hC, h1, h2, h3⟩ := h
  obtain ⟨n, rs, held, cl, lk, gr, ce, ev⟩ := P
  obtain ⟨o1, o2⟩ := right_op hrt
  simp only at hp hrt hl hk hI hE hH M hC h1 h2 h3
  have hop : f 0 = 1 ∨ f 0 = 2 ∨ f 0 = 3 ∨ f 0 = 4 ∨ f 0 = 5 ∨ f 0 = 6 ∨ f 0 = 7 ∨ f 0 = 8 ∨ f 0 = 9 ∨ f 0 = 10 ∨ f 0 = 11 ∨ f 0 = 12 ∨ f 0 = 13 ∨ f 0 = 14 ∨ f 0 = 15 ∨ f 0 = 16 := by omega
  rcases hop with o | o | o | o | o | o | o | o | o | o | o | o | o | o | o | o
  · have ra := right_a hrt o
    obtain ⟨aN, eaN⟩ : ∃ aN : Nat, f 1 = (aN : Int) := ⟨(f 1).toNat, by omega⟩
    refine (st_1 (b := f 2) (b3 := f 3) M hC hk hS hp hl hE h1 h2 h3 hI o eaN rfl rfl (by omega)).mono ?_
    rintro e W' ⟨he, hw⟩
    have hs : stepP S ⟨n, rs, held, cl, lk, gr, ce, ev⟩ k f = (⟨n, (fun j => if j = k then { setReg (rs k) aN (f 2) with pos := (rs k).pos + 1 } else rs j), held, cl, lk, gr, ce, ev ++ [⟨k, 1, 0, 0, false⟩]⟩, 0) := by
      unfold stepP
      simp only [o]
      simp [eaN, finP, tellP, setR]
      try rfl
    rw [hs]
    exact ⟨hw, he⟩
  · have ra := right_ab hrt (.inl o)
    obtain ⟨aN, eaN⟩ : ∃ aN : Nat, f 1 = (aN : Int) := ⟨(f 1).toNat, by omega⟩
    obtain ⟨bN, ebN⟩ : ∃ bN : Nat, f 2 = (bN : Int) := ⟨(f 2).toNat, by omega⟩
    refine (st_2 (b3 := f 3) M hC hk hS hp hl hE h1 h2 h3 hI o eaN ebN rfl (by omega) (by omega) rfl).mono ?_
    rintro e W' ⟨he, hw⟩
    have hs : stepP S ⟨n, rs, held, cl, lk, gr, ce, ev⟩ k f = (⟨n, (fun j => if j = k then { setReg (rs k) aN (IntKind.i64.wrap ((rs k).rg aN + (rs k).rg bN)) with pos := (rs k).pos + 1 } else rs j), held, cl, lk, gr, ce, ev ++ [⟨k, 2, 0, 0, false⟩]⟩, 0) := by
      unfold stepP
      simp only [o]
      simp [eaN, ebN, finP, tellP, setR]
      try rfl
    rw [hs]
    exact ⟨hw, he⟩
  · have ra := right_ab hrt (.inr (.inl o))
    have rc := right_c hrt (.inl o)
    obtain ⟨aN, eaN⟩ : ∃ aN : Nat, f 1 = (aN : Int) := ⟨(f 1).toNat, by omega⟩
    obtain ⟨bN, ebN⟩ : ∃ bN : Nat, f 2 = (bN : Int) := ⟨(f 2).toNat, by omega⟩
    obtain ⟨cN, ecN⟩ : ∃ cN : Nat, f 3 = (cN : Int) := ⟨(f 3).toNat, by omega⟩
    by_cases hlt : (rs k).rg bN ≤ (rs k).rg aN
    · refine (st_3a  M hC hk hS hp hl hE h1 h2 h3 hI o eaN ebN ecN (by omega) (by omega) hlt).mono ?_
      rintro e W' ⟨he, hw⟩
      have hs : stepP S ⟨n, rs, held, cl, lk, gr, ce, ev⟩ k f = (⟨n, (fun j => if j = k then { rs k with pos := (rs k).pos + 1 } else rs j), held, cl, lk, gr, ce, ev ++ [⟨k, 3, 0, 0, false⟩]⟩, 0) := by
        unfold stepP
        simp only [o]
        simp [eaN, ebN, hlt, finP, tellP, setR]
        try rfl
      rw [hs]
      exact ⟨hw, he⟩
    · refine (st_3b  M hC hk hS hp hl hE h1 h2 h3 hI o eaN ebN ecN (by omega) (by omega) (by omega)).mono ?_
      rintro e W' ⟨he, hw⟩
      have hs : stepP S ⟨n, rs, held, cl, lk, gr, ce, ev⟩ k f = (⟨n, (fun j => if j = k then { rs k with pos := cN } else rs j), held, cl, lk, gr, ce, ev ++ [⟨k, 3, 0, 0, false⟩]⟩, 0) := by
        unfold stepP
        simp only [o]
        simp [eaN, ebN, ecN, hlt, finP, tellP, setR]
        try rfl
      rw [hs]
      exact ⟨hw, he⟩
  · have rc := right_c hrt (.inr (.inl o))
    obtain ⟨cN, ecN⟩ : ∃ cN : Nat, f 3 = (cN : Int) := ⟨(f 3).toNat, by omega⟩
    refine (st_4 (b := f 1) (b4 := f 2) M hC hk hS hp hl hE h1 h2 h3 hI o rfl rfl ecN).mono ?_
    rintro e W' ⟨he, hw⟩
    have hs : stepP S ⟨n, rs, held, cl, lk, gr, ce, ev⟩ k f = (⟨n, (fun j => if j = k then { rs k with pos := cN } else rs j), held, cl, lk, gr, ce, ev ++ [⟨k, 4, 0, 0, false⟩]⟩, 0) := by
      unfold stepP
      simp only [o]
      simp [ecN, finP, tellP, setR]
      try rfl
    rw [hs]
    exact ⟨hw, he⟩
  · have ra := right_room hrt (.inl o)
    have rb := right_b hrt (.inl o)
    obtain ⟨aN, eaN⟩ : ∃ aN : Nat, f 1 = (aN : Int) := ⟨(f 1).toNat, by omega⟩
    obtain ⟨bN, ebN⟩ : ∃ bN : Nat, f 2 = (bN : Int) := ⟨(f 2).toNat, by omega⟩
    cases hcl : cl aN with
    | true =>
      refine (st_5c (b3 := f 3) M hC hk hS hp hl hE h1 h2 h3 hI o eaN ebN rfl (by omega) (by omega) hcl).mono ?_
      rintro e W' ⟨he, hw⟩
      have hs : stepP S ⟨n, rs, held, cl, lk, gr, ce, ev⟩ k f = (⟨n, rs, held, cl, lk, gr, ce, ev ++ [⟨k, 5, aN, ((rs k).rg bN), false⟩]⟩, 131) := by
        unfold stepP
        simp only [o]
        simp [eaN, ebN, hcl, tellP]
        try rfl
      rw [hs]
      exact ⟨hw, he⟩
    | false =>
      refine (st_5o (b3 := f 3) M hC hk hS hp hl hE h1 h2 h3 hI o eaN ebN rfl (hH aN) (by omega) (by omega) hcl).mono ?_
      rintro e W' ⟨he, hw⟩
      have hs : stepP S ⟨n, rs, held, cl, lk, gr, ce, ev⟩ k f = (⟨n, (fun j => if j = k then { rs k with pos := (rs k).pos + 1 } else rs j), updN held aN (held aN ++ [(rs k).rg bN]), cl, lk, gr, ce, ev ++ [⟨k, 5, aN, ((rs k).rg bN), false⟩]⟩, 0) := by
        unfold stepP
        simp only [o]
        simp [eaN, ebN, hcl, finP, tellP, setR]
        try rfl
      rw [hs]
      exact ⟨hw, he⟩
  · have ra := right_room hrt (.inr (.inl o))
    have rb := right_b hrt (.inr (.inl o))
    have rc := right_c hrt (.inr (.inr o))
    obtain ⟨aN, eaN⟩ : ∃ aN : Nat, f 1 = (aN : Int) := ⟨(f 1).toNat, by omega⟩
    obtain ⟨bN, ebN⟩ : ∃ bN : Nat, f 2 = (bN : Int) := ⟨(f 2).toNat, by omega⟩
    obtain ⟨cN, ecN⟩ : ∃ cN : Nat, f 3 = (cN : Int) := ⟨(f 3).toNat, by omega⟩
    have hq := M.hr aN (by show aN < S.nr; omega)
    have hq : HRow w.heap.size W (hv aN) (held aN) := hq
    cases hh : held aN with
    | nil =>
      rw [hh] at hq
      obtain ⟨A0, c1, hv0⟩ : ∃ A0 c1, hv aN = .slice A0 0 c1 := by
        rcases hq with ⟨h, _⟩ | ⟨g, off, cap, cur', h, _⟩
        · exact ⟨_, _, h⟩
        · exact ⟨_, _, h⟩
      refine (st_6n (b := f 2) M hC hk hS hp hl hE h1 h2 h3 hI o eaN rfl ecN hv0 (by omega)).mono ?_
      rintro e W' ⟨he, hw⟩
      have hs : stepP S ⟨n, rs, held, cl, lk, gr, ce, ev⟩ k f = (⟨n, (fun j => if j = k then { rs k with pos := cN } else rs j), held, cl, lk, gr, ce, ev ++ [⟨k, 6, aN, 0, true⟩]⟩, 0) := by
        unfold stepP
        simp only [o]
        simp [eaN, ecN, hh, finP, tellP, setR]
        try rfl
      rw [hs]
      exact ⟨hw, he⟩
    | cons x l =>
      rw [hh] at hq
      obtain ⟨g, off, cc, hv0, hcc⟩ : ∃ g off cc, hv aN = .slice (some ⟨g, off, none⟩) (l.length + 1) cc ∧ 1 ≤ cc := by
        rcases hq with ⟨_, h⟩ | ⟨g, off, cap, cur', h, _, _, h4, _⟩
        · cases h
        · exact ⟨g, off, cap, h, by simp at h4; omega⟩
      by_cases h1c : cc = 1
      · refine (st_6a (b3 := f 3) M hC hk hS hp hl hE h1 h2 h3 hI o eaN ebN rfl hv0 hh h1c (by omega) (by omega)).mono ?_
        rintro e W' ⟨he, hw⟩
        have hs : stepP S ⟨n, rs, held, cl, lk, gr, ce, ev⟩ k f = (⟨n, (fun j => if j = k then { setReg (rs k) bN x with pos := (rs k).pos + 1 } else rs j), updN held aN l, cl, lk, gr, ce, ev ++ [⟨k, 6, aN, x, false⟩]⟩, 0) := by
          unfold stepP
          simp only [o]
          simp [eaN, ebN, hh, finP, tellP, setR]
          try rfl
        rw [hs]
        exact ⟨hw, he⟩
      · refine (st_6b (b3 := f 3) M hC hk hS hp hl hE h1 h2 h3 hI o eaN ebN rfl hv0 hh (by omega) (by omega) (by omega)).mono ?_
        rintro e W' ⟨he, hw⟩
        have hs : stepP S ⟨n, rs, held, cl, lk, gr, ce, ev⟩ k f = (⟨n, (fun j => if j = k then { setReg (rs k) bN x with pos := (rs k).pos + 1 } else rs j), updN held aN l, cl, lk, gr, ce, ev ++ [⟨k, 6, aN, x, false⟩]⟩, 0) := by
          unfold stepP
          simp only [o]
          simp [eaN, ebN, hh, finP, tellP, setR]
          try rfl
        rw [hs]
        exact ⟨hw, he⟩
  · have ra := right_room hrt (.inr (.inr o))
    obtain ⟨aN, eaN⟩ : ∃ aN : Nat, f 1 = (aN : Int) := ⟨(f 1).toNat, by omega⟩
    cases hcl : cl aN with
    | true =>
      refine (st_7c (b := f 2) (b3 := f 3) M hC hk hS hp hl hE h1 h2 h3 hI o eaN rfl rfl (by omega) hcl).mono ?_
      rintro e W' ⟨he, hw⟩
      have hs : stepP S ⟨n, rs, held, cl, lk, gr, ce, ev⟩ k f = (⟨n, rs, held, cl, lk, gr, ce, ev ++ [⟨k, 7, aN, 0, false⟩]⟩, 132) := by
        unfold stepP
        simp only [o]
        simp [eaN, hcl, tellP]
        try rfl
      rw [hs]
      exact ⟨hw, he⟩
    | false =>
      refine (st_7o (b := f 2) (b3 := f 3) M hC hk hS hp hl hE h1 h2 h3 hI o eaN rfl rfl (by omega) hcl).mono ?_
      rintro e W' ⟨he, hw⟩
      have hs : stepP S ⟨n, rs, held, cl, lk, gr, ce, ev⟩ k f = (⟨n, (fun j => if j = k then { rs k with pos := (rs k).pos + 1 } else rs j), held, updN cl aN true, lk, gr, ce, ev ++ [⟨k, 7, aN, 0, false⟩]⟩, 0) := by
        unfold stepP
        simp only [o]
        simp [eaN, hcl, finP, tellP, setR]
        try rfl
      rw [hs]
      exact ⟨hw, he⟩
  · have ra := right_lock hrt (.inl o)
    obtain ⟨aN, eaN⟩ : ∃ aN : Nat, f 1 = (aN : Int) := ⟨(f 1).toNat, by omega⟩
    refine (st_8 (b := f 2) (b3 := f 3) M hC hk hS hp hl hE h1 h2 h3 hI o eaN rfl rfl (by omega)).mono ?_
    rintro e W' ⟨he, hw⟩
    have hs : stepP S ⟨n, rs, held, cl, lk, gr, ce, ev⟩ k f = (⟨n, (fun j => if j = k then { rs k with pos := (rs k).pos + 1 } else rs j), held, cl, updI lk aN true, gr, ce, ev ++ [⟨k, 8, aN, 0, false⟩]⟩, 0) := by
      unfold stepP
      simp only [o]
      simp [eaN, finP, tellP, setR]
      try rfl
    rw [hs]
    exact ⟨hw, he⟩
  · have ra := right_lock hrt (.inr o)
    obtain ⟨aN, eaN⟩ : ∃ aN : Nat, f 1 = (aN : Int) := ⟨(f 1).toNat, by omega⟩
    cases hcl : lk aN with
    | true =>
      refine (st_9t (b := f 2) (b3 := f 3) M hC hk hS hp hl hE h1 h2 h3 hI o eaN rfl rfl (by omega) hcl).mono ?_
      rintro e W' ⟨he, hw⟩
      have hs : stepP S ⟨n, rs, held, cl, lk, gr, ce, ev⟩ k f = (⟨n, (fun j => if j = k then { rs k with pos := (rs k).pos + 1 } else rs j), held, cl, updI lk aN false, gr, ce, ev ++ [⟨k, 9, aN, 0, false⟩]⟩, 0) := by
        unfold stepP
        simp only [o]
        simp [eaN, hcl, finP, tellP, setR]
        try rfl
      rw [hs]
      exact ⟨hw, he⟩
    | false =>
      refine (st_9f (b := f 2) (b3 := f 3) M hC hk hS hp hl hE h1 h2 h3 hI o eaN rfl rfl (by omega) hcl).mono ?_
      rintro e W' ⟨he, hw⟩
      have hs : stepP S ⟨n, rs, held, cl, lk, gr, ce, ev⟩ k f = (⟨n, rs, held, cl, lk, gr, ce, ev ++ [⟨k, 9, aN, 0, false⟩]⟩, 133) := by
        unfold stepP
        simp only [o]
        simp [eaN, hcl, tellP]
        try rfl
      rw [hs]
      exact ⟨hw, he⟩
  · have ra := right_group hrt (.inl o)
    obtain ⟨aN, eaN⟩ : ∃ aN : Nat, f 1 = (aN : Int) := ⟨(f 1).toNat, by omega⟩
    by_cases hs0 : IntKind.i64.wrap (gr aN + f 2) < 0
    · refine (st_10g (b := f 2) (b3 := f 3) M hC hk hS hp hl hE h1 h2 h3 hI o eaN rfl rfl (by omega) rfl hs0).mono ?_
      rintro e W' ⟨he, hw⟩
      have hs : stepP S ⟨n, rs, held, cl, lk, gr, ce, ev⟩ k f = (⟨n, rs, held, cl, lk, gr, ce, ev ++ [⟨k, 10, aN, (IntKind.i64.wrap (gr aN + f 2)), false⟩]⟩, 134) := by
        unfold stepP
        simp only [o]
        simp [eaN, hs0, tellP]
        try rfl
      rw [hs]
      exact ⟨hw, he⟩
    · refine (st_10n (b := f 2) (b3 := f 3) M hC hk hS hp hl hE h1 h2 h3 hI o eaN rfl rfl (by omega) rfl hs0).mono ?_
      rintro e W' ⟨he, hw⟩
      have hs : stepP S ⟨n, rs, held, cl, lk, gr, ce, ev⟩ k f = (⟨n, (fun j => if j = k then { rs k with pos := (rs k).pos + 1 } else rs j), held, cl, lk, updI gr aN (IntKind.i64.wrap (gr aN + f 2)), ce, ev ++ [⟨k, 10, aN, (IntKind.i64.wrap (gr aN + f 2)), false⟩]⟩, 0) := by
        unfold stepP
        simp only [o]
        simp [eaN, hs0, finP, tellP, setR]
        try rfl
      rw [hs]
      exact ⟨hw, he⟩
  · have ra := right_group hrt (.inr o)
    obtain ⟨aN, eaN⟩ : ∃ aN : Nat, f 1 = (aN : Int) := ⟨(f 1).toNat, by omega⟩
    refine (st_11 (b := f 2) (b3 := f 3) M hC hk hS hp hl hE h1 h2 h3 hI o eaN rfl rfl).mono ?_
    rintro e W' ⟨he, hw⟩
    have hs : stepP S ⟨n, rs, held, cl, lk, gr, ce, ev⟩ k f = (⟨n, (fun j => if j = k then { rs k with pos := (rs k).pos + 1 } else rs j), held, cl, lk, gr, ce, ev ++ [⟨k, 11, aN, 0, false⟩]⟩, 0) := by
      unfold stepP
      simp only [o]
      simp [eaN, finP, tellP, setR]
      try rfl
    rw [hs]
    exact ⟨hw, he⟩
  · have ra := right_ab hrt (.inr (.inr (.inl o)))
    obtain ⟨aN, eaN⟩ : ∃ aN : Nat, f 1 = (aN : Int) := ⟨(f 1).toNat, by omega⟩
    obtain ⟨bN, ebN⟩ : ∃ bN : Nat, f 2 = (bN : Int) := ⟨(f 2).toNat, by omega⟩
    have hc0 := right_cells hrt (.inl o)
    have hce0 : 0 < y.ce := by omega
    have hm1 := Int.emod_nonneg ((rs k).rg aN) hc0
    have hm2 := Int.emod_lt_of_pos ((rs k).rg aN) (b := S.ce) (by omega)
    obtain ⟨x, ex⟩ : ∃ x : Nat, (rs k).rg aN % S.ce = (x : Int) := ⟨((rs k).rg aN % S.ce).toNat, by omega⟩
    refine (st_12 (b3 := f 3) M hC hk hS hp hl hE h1 h2 h3 hI o eaN ebN rfl (by omega) (by omega) (x := x) (by omega) (by rw [← hce]; exact ex) hce0 hce64).mono ?_
    rintro e W' ⟨he, hw⟩
    have hs : stepP S ⟨n, rs, held, cl, lk, gr, ce, ev⟩ k f = (⟨n, (fun j => if j = k then { setReg (rs k) bN (ce x) with pos := (rs k).pos + 1 } else rs j), held, cl, lk, gr, ce, ev ++ [⟨k, 12, x, (ce x), false⟩]⟩, 0) := by
      unfold stepP
      simp only [o]
      simp [eaN, ebN, ex, finP, tellP, setR]
      try rfl
    rw [hs]
    exact ⟨hw, he⟩
  · have ra := right_ab hrt (.inr (.inr (.inr o)))
    obtain ⟨aN, eaN⟩ : ∃ aN : Nat, f 1 = (aN : Int) := ⟨(f 1).toNat, by omega⟩
    obtain ⟨bN, ebN⟩ : ∃ bN : Nat, f 2 = (bN : Int) := ⟨(f 2).toNat, by omega⟩
    have hc0 := right_cells hrt (.inr o)
    have hce0 : 0 < y.ce := by omega
    have hm1 := Int.emod_nonneg ((rs k).rg aN) hc0
    have hm2 := Int.emod_lt_of_pos ((rs k).rg aN) (b := S.ce) (by omega)
    obtain ⟨x, ex⟩ : ∃ x : Nat, (rs k).rg aN % S.ce = (x : Int) := ⟨((rs k).rg aN % S.ce).toNat, by omega⟩
    refine (st_13 (b3 := f 3) M hC hk hS hp hl hE h1 h2 h3 hI o eaN ebN rfl (by omega) (by omega) (x := x) (by omega) (by rw [← hce]; exact ex) hce0 hce64).mono ?_
    rintro e W' ⟨he, hw⟩
    have hs : stepP S ⟨n, rs, held, cl, lk, gr, ce, ev⟩ k f = (⟨n, (fun j => if j = k then { rs k with pos := (rs k).pos + 1 } else rs j), held, cl, lk, gr, updI ce x ((rs k).rg bN), ev ++ [⟨k, 13, x, ((rs k).rg bN), false⟩]⟩, 0) := by
      unfold stepP
      simp only [o]
      simp [eaN, ebN, ex, finP, tellP, setR]
      try rfl
    rw [hs]
    exact ⟨hw, he⟩
  · have ra := right_start hrt o
    obtain ⟨aN, eaN⟩ : ∃ aN : Nat, f 1 = (aN : Int) := ⟨(f 1).toNat, by omega⟩
    by_cases hn : 512 ≤ n
    · refine (st_14f (b := f 2) (b3 := f 3) M hC hk hS hp hl hE h1 h2 h3 hI o eaN rfl rfl hn).mono ?_
      rintro e W' ⟨he, hw⟩
      have hs : stepP S ⟨n, rs, held, cl, lk, gr, ce, ev⟩ k f = (⟨n, rs, held, cl, lk, gr, ce, ev ++ [⟨k, 14, aN, 0, false⟩]⟩, 135) := by
        unfold stepP
        simp only [o]
        simp [eaN, hn, tellP]
        try rfl
      rw [hs]
      exact ⟨hw, he⟩
    · refine (st_14 (b := f 2) (b3 := f 3) M hC hk hS hp hl hE h1 h2 h3 hI o eaN rfl rfl (by omega)).mono ?_
      rintro e W' ⟨he, hw⟩
      have hs : stepP S ⟨n, rs, held, cl, lk, gr, ce, ev⟩ k f = (⟨n + 1, (fun j => if j = k then { rs k with pos := (rs k).pos + 1 } else updN rs n ⟨aN, 0, (rs k).rg⟩ j), held, cl, lk, gr, ce, ev ++ [⟨k, 14, aN, n, false⟩]⟩, 0) := by
        unfold stepP
        simp only [o]
        simp [eaN, hn, finP, tellP, setR]
        try rfl
      rw [hs]
      exact ⟨hw, he⟩
  · have rb := right_b hrt (.inr (.inr o))
    obtain ⟨bN, ebN⟩ : ∃ bN : Nat, f 2 = (bN : Int) := ⟨(f 2).toNat, by omega⟩
    refine (st_15 (b := f 1) (b3 := f 3) M hC hk hS hp hl hE h1 h2 h3 hI o rfl ebN rfl (by omega)).mono ?_
    rintro e W' ⟨he, hw⟩
    have hs : stepP S ⟨n, rs, held, cl, lk, gr, ce, ev⟩ k f = (⟨n, (fun j => if j = k then { rs k with pos := (rs k).pos + 1 } else rs j), held, cl, lk, gr, ce, ev ++ [⟨k, 15, (f 1), ((rs k).rg bN), false⟩]⟩, 0) := by
      unfold stepP
      simp only [o]
      simp [ebN, finP, tellP, setR]
      try rfl
    rw [hs]
    exact ⟨hw, he⟩
  · refine (st_16 (b := f 1) (b4 := f 2) (b3 := f 3) M hC hk hS hp hl hE h1 h2 h3 hI o rfl rfl rfl).mono ?_
    rintro e W' ⟨he, hw⟩
    have hs : stepP S ⟨n, rs, held, cl, lk, gr, ce, ev⟩ k f = (⟨n, (fun j => if j = k then { rs k with pos := S.lp (rs k).prog } else rs j), held, cl, lk, gr, ce, ev ++ [⟨k, 16, 0, 0, false⟩]⟩, 0) := by
      unfold stepP
      simp only [o]
      simp [finP, tellP, setR]
      try rfl
    rw [hs]
    exact ⟨hw, he⟩
end
end Go.Proofs.Ytakmcpadkanggaa
namespace Go.Proofs.Ytakmcpadkanggaa
open Go.RowKit Go.Maps Go.Deep
theorem OM.perm {w W : World} {L L' : List Ent} {r : Rw} (M : OM w W L r) (h : L'.Perm L) : OM w W L' r := by
  obtain ⟨O, hr1, hr2, aE, aH, aHH⟩ := M
  exact ⟨⟨O.keep, fun q hq => O.blk q (h.mem_iff.1 hq), fun q hq => O.new q (h.mem_iff.1 hq), (h.map _).nodup_iff.2 O.nd⟩, hr1, hr2, fun q hq => aE q (h.mem_iff.1 hq), fun c hc q hq => aH c hc q (h.mem_iff.1 hq), aHH⟩
theorem mod_twice' (v : Int) (c : Nat) (h : 0 < c) (h' : c ≤ 1000000) : (wrap64 (v.tmod c + c)).tmod c = v % (c : Int) := by
  have h0 : (0 : Int) < c := by omega
  have h1 := Int.tmod_lt_of_pos v h0
  have h2 := Int.lt_tmod_of_pos v h0
  have e : wrap64 (v.tmod c + c) = v.tmod c + c := IntWalk.wrap64_in _ (by omega)
  rw [e, Int.tmod_eq_emod_of_nonneg (by omega), Int.add_emod_right]
  have h3 := Int.mul_tdiv_add_tmod v c
  conv => rhs; rw [← h3, Int.add_comm, Int.add_mul_emod_self_left]
/-- No step makes more than one runner, or lays more than one number into a channel. -/
def Small (P : PW) (x : PW × Int) : Prop := x.1.n ≤ P.n + 1 ∧ ∀ c, (x.1.held c).length ≤ (P.held c).length + 1
theorem small_ite {P : PW} {c : Prop} [Decidable c] {x y : PW × Int} (h1 : Small P x) (h2 : Small P y) : Small P (if c then x else y) := by split <;> assumption
theorem stepP_small (S : Sys) (P : PW) (k : Nat) (f : Nat → Int) : Small P (stepP S P k f) := by
  unfold stepP
  simp only []
  repeat' (refine small_ite ?_ ?_)
  all_goals first
    | exact ⟨Nat.le_succ _, fun c => Nat.le_succ _⟩
    | exact ⟨Nat.le_refl _, fun c => Nat.le_succ _⟩
    | skip
  · refine ⟨Nat.le_succ _, fun c => ?_⟩
    show (updN P.held (f 1).toNat _ c).length ≤ _
    by_cases e : c = (f 1).toNat
    · subst e; rw [updN_same]; simp
    · rw [updN_other _ _ _ _ e]; omega
  · cases hh : P.held (f 1).toNat with
    | nil => exact ⟨Nat.le_succ _, fun c => Nat.le_succ _⟩
    | cons x l =>
      refine ⟨Nat.le_succ _, fun c => ?_⟩
      show (updN P.held (f 1).toNat l c).length ≤ _
      by_cases e : c = (f 1).toNat
      · subst e; rw [updN_same, hh]; simp; omega
      · rw [updN_other _ _ _ _ e]; omega
section
variable {w W : World} {L : List Ent} {r : Rw} {e6 e7 : Nat}
set_option maxRecDepth 100000 in
theorem catch_panicking (x : Int) (older : List PanicEntry) (i j : Nat) (M : OM w W L r) (h6 : L[i]? = some (e6, 3, #[.int .i64 0])) (h7 : L[j]? = some (e7, 22, #[.int .i64 0])) (hne : i ≠ j) :
    CallsD Try.prog 89 #[.pointer (some ⟨e6, 0, none⟩), .pointer (some ⟨e7, 0, none⟩)] (.panicking ({ v := .iface 22 (.int .i64 x), recovered := false } :: older)) W fun e u' w' =>
      e = .returned (.tuple #[]) ∧ u' = .panicking ({ v := .iface 22 (.int .i64 x), recovered := true } :: older) ∧ OM w w' ((L.set i (e6, 3, #[.int .i64 3])).set j (e7, 22, #[.int .i64 x])) r := by
  refine callsD_of_wpS Try.func89 rfl fun c₀ cs hu => ?_
  apply wpS_seq
  apply wpS_region
  simp [wpOpsS, go_sem, recoverD, hu, Try.ntmps89, Exit.thenS]
  apply wpS_seq
  apply wpS_region
  simp [wpOpsS, go_sem, recoverD, Exit.thenS]
  refine wpS_cond (t := true) (by simp [Act.eval, Array.replicate]) ?_
  simp only [if_true]
  refine wpS_of_wp ?_
  show Code.wp Try.prog _ _ { tmps := #[.pointer (some ⟨e6, 0, none⟩), .pointer (some ⟨e7, 0, none⟩), .iface 22 (.int .i64 x), .iface 22 (.int .i64 x), .iface 22 (.int .i64 x), .bool true, undef, undef], defers := [] } W
  refine wp_headH (S := fun _ => True) 3 (by kernel_rfl) (by kernel_rfl) ?_
  replace M := M.keeps (Keeps.refl _ _).drew
  have hta : ∀ (v : Value) (w : World), (Instr.typeAssert (.iface 22 v) 20 22 false).run Try.prog w = .ok v w := fun _ _ => by kernel_rfl
  refine ah_take (f := 1) (L' := #[true, true, false, false]) trivial [0, 1] [_, _] _ _ rfl (by decide) (by kernel_rfl) ?_
  simp only [List.getElem_toArray, List.getElem_cons_zero, List.getElem_cons_succ]
  repeat (first
    | (refine take_pure (v := ?_) (by rfl) ?_ ?_; rotate_left; (· (intro w hSw; clear hSw; go_simp; try with_reducible rfl)); simp only [Act.put, List.setIfInBounds_toArray, List.set_cons_zero, List.set_cons_succ]))
  refine takeA_done ?_
  refine ah_sole 2 #[true, true, true, false] rfl (by decide) (by kernel_rfl) ?_
  try simp only [List.getElem_toArray, List.getElem_cons_zero, List.getElem_cons_succ]
  go_wp2_with (refine at_store (.tmp 0) (.const (.int .i64 3)) rfl ?_; refine om_store i 0 (.int .i64 3) (.tmp 0) (.const (.int .i64 3)) M rfl rfl rfl rfl rfl h6 (by decide) rfl rfl (by kernel_rfl) rfl ?_; clear M; intro V M)
  (first | refine backA_intro2 trivial ?_ | refine backA_intro trivial ?_)
  refine ah_tail (by kernel_rfl) ?_
  try simp only [List.drop]
  have h7' : (L.set i (e6, 3, #[Value.int .i64 3]))[j]? = some (e7, 22, #[.int .i64 0]) := (List.getElem?_set_ne hne).trans h7
  go_wp2_with (refine at_store (.tmp 1) (.tmp 7) rfl ?_; refine om_store j 0 (.int .i64 x) (.tmp 1) (.tmp 7) M rfl rfl rfl rfl rfl h7' (by decide) rfl rfl (by kernel_rfl) rfl ?_; clear M; intro V M)
  refine np_intro ?_
  cases c₀
  refine ⟨rfl, _, rfl, _, ?_, rfl, rfl, M⟩
  simp [results, Try.results89]
theorem catch_idle : CallsD Try.prog 89 #[.pointer (some ⟨e6, 0, none⟩), .pointer (some ⟨e7, 0, none⟩)] .returning W fun e u' w' => e = .returned (.tuple #[]) ∧ u' = .returning ∧ w' = W := by
  refine callsD_of_wpS Try.func89 rfl fun c₀ cs hu => ?_
  apply wpS_seq
  apply wpS_region
  simp [wpOpsS, go_sem, recoverD, hu, Try.ntmps89, Exit.thenS]
  apply wpS_seq
  apply wpS_region
  simp [wpOpsS, go_sem, recoverD, hu, Exit.thenS]
  refine wpS_cond (t := false) (by simp [Act.eval, Array.replicate]) ?_
  simp only [Bool.false_eq_true, if_false]
  refine wpS_of_wp (wp_skip ?_)
  cases c₀
  simp_all [bodyPostS, results, Try.results89]
theorem more_any (t : Int) : Calls Try.prog 58 #[.int .i64 t] W fun e W' => e = .returned (.bool true) ∧ W = W' := by
  go_enter Try.func58, Try.ntmps58
  go_wp2
  go_ret
  exact ⟨rfl, rfl⟩
/-- What a run has come to. -/
def EndR (w : World) (S : Sys) (A : Option Addr) (c : Nat) (R : Option Addr) (d : Nat) (y : Ly) (Lr : List Ent) (X : RunP) (e : Ending) (W' : World) : Prop := e = .returned (.tuple #[.int .i64 X.fin, .int .i64 X.fault]) ∧ InW w W' S A c R d y Lr X.P
theorem run_door {S : Sys} {A : Option Addr} {c : Nat} {R : Option Addr} {d : Nat} {y : Ly} {Lr : List Ent} {X : RunP} {a : Act} (hd : a.defers = [{ target := Target.fn (Fn.func 89) #[.pointer (some ⟨e6, 0, none⟩), .pointer (some ⟨e7, 0, none⟩)], args := #[] }])
    (h6 : a.tmps[6]? = some (.pointer (some ⟨e6, 0, none⟩))) (h7 : a.tmps[7]? = some (.pointer (some ⟨e7, 0, none⟩))) (h : InW w W S A c R d y ((e7, 22, #[Value.int .i64 X.fault]) :: (e6, 3, #[Value.int .i64 X.fin]) :: Lr) X.P) :
    bodyPostD Try.prog Try.f57 (EndR w S A c R d y Lr X) .ret a W := by
  unfold bodyPostD
  simp only [hd]
  refine leaves_cons (f := 89) (args := #[.pointer (some ⟨e6, 0, none⟩), .pointer (some ⟨e7, 0, none⟩)]) (by simp) (by simp [go_sem]) ?_
  refine catch_idle.mono ?_
  rintro e u' w'' ⟨rfl, rfl, rfl⟩
  obtain ⟨gw, cw, cur, evs, hv, M, hC, q1, q2, q3⟩ := h
  have c6 := (M.get 8 rfl).cell 0
  have c7 := (M.get 7 rfl).cell 0
  refine ⟨_, ?_, rfl, gw, cw, cur, evs, hv, (M.perm (List.perm_append_comm_assoc [_, _] [_, _, _, _, _, _, _] Lr)).drop_ 2, hC, q1, q2, q3⟩
  clear M hC q1 q2 q3
  simp [results, Try.results57, h6, h7, c6, c7, go_sem]
theorem run_panic {S : Sys} {A : Option Addr} {c : Nat} {R : Option Addr} {d : Nat} {y : Ly} {Lr : List Ent} {X : RunP} {a : Act} (hd : a.defers = [{ target := Target.fn (Fn.func 89) #[.pointer (some ⟨e6, 0, none⟩), .pointer (some ⟨e7, 0, none⟩)], args := #[] }])
    (h6 : a.tmps[6]? = some (.pointer (some ⟨e6, 0, none⟩))) (h7 : a.tmps[7]? = some (.pointer (some ⟨e7, 0, none⟩))) (h : InW w W S A c R d y ((e7, 22, #[Value.int .i64 0]) :: (e6, 3, #[Value.int .i64 0]) :: Lr) X.P) (h3 : X.fin = 3) :
    bodyPostD Try.prog Try.f57 (EndR w S A c R d y Lr X) (.panic [{ v := .iface 22 (.int .i64 X.fault), recovered := false }]) a W := by
  unfold bodyPostD
  simp only [hd]
  obtain ⟨gw, cw, cur, evs, hv, M, hC, q1, q2, q3⟩ := h
  refine leaves_cons (f := 89) (args := #[.pointer (some ⟨e6, 0, none⟩), .pointer (some ⟨e7, 0, none⟩)]) (by simp) (by simp [go_sem]) ?_
  refine (catch_panicking X.fault [] 8 7 M rfl rfl (by decide)).mono ?_
  rintro e u' w'' ⟨rfl, rfl, M⟩
  have c6 := (M.get 8 rfl).cell 0
  have c7 := (M.get 7 rfl).cell 0
  refine ⟨_, ?_, rfl, gw, cw, cur, evs, hv, (M.perm (List.perm_append_comm_assoc [_, _] [_, _, _, _, _, _, _] Lr)).drop_ 2, hC, q1, q2, q3⟩
  clear M hC q1 q2 q3
  simp [results, Try.results57, h6, h7, c6, c7, go_sem]
  exact h3.symm
set_option maxRecDepth 100000 in
set_option maxHeartbeats 4000000 in
theorem run_any {S : Sys} {A : Option Addr} {c : Nat} {R : Option Addr} {d : Nat} {y : Ly} {Lr : List Ent} {picks : List Int} {pv : Value} (h : InW w W S A c R d y Lr begunP) (hS : SysIn w S A c R d) (hvd : validB S = true) (hlk : S.lk = (y.lk : Int)) (hgr : S.gr = (y.gr : Int)) (hce : S.ce = (y.ce : Int)) (hp : IntL w pv picks) :
    Calls Try.prog 57 #[.pointer (some ⟨y.wp, 0, none⟩), pv, .func (.func 58) #[] #[]] W (EndR w S A c R d y Lr (playP S picks)) := by
  have hmf : ∀ (fn : Fn) (first cap : Array Value) (w : World), (Instr.makeFunc fn first cap).run Try.prog w = .ok (.func fn first cap) w := fun _ _ _ _ => rfl
  obtain ⟨Ap, cp, rfl, hpc⟩ := hp
  have HP := Lib.hid hpc
  have HS := Lib.hid hS
  have HV := Lib.hid hvd
  have HY := Lib.hid (And.intro hlk (And.intro hgr hce))
  have h0 : (0 : Nat) < S.np := by
    have := ((headB_iff S).1 ((validB_iff S).1 hvd).1).1
    omega
  have HR0 := Lib.hid (show RInv S begunP from fun k _ => h0)
  have HX0 := Lib.hid (show runP S picks 40001 0 begunP = playP S picks from rfl)
  generalize playP S picks = X at *
  obtain ⟨gw, cw, cur, evs, hv, M, hC, q1, q2, q3⟩ := h
  have HC := Lib.hid (And.intro hC (And.intro q1 (And.intro q2 q3)))
  clear hpc hS hvd hlk hgr hce hC q1 q2 q3 h0
  go_enter_defers Try.func57, Try.ntmps57
  go_wp2_with (first
    | go_big_skip
    | (refine om_alloc1 6 (.int .i64 0) M rfl rfl rfl (fun _ => by kernel_rfl) rfl ?_; clear M; intro V e6 M; simp only [Act.put, List.setIfInBounds_toArray, List.set_cons_zero, List.set_cons_succ])
    | (refine om_alloc1 7 (.int .i64 0) M rfl rfl rfl (fun _ => by kernel_rfl) rfl ?_; clear M; intro V e7 M; simp only [Act.put, List.setIfInBounds_toArray, List.set_cons_zero, List.set_cons_succ]))
  have H0 : InW w V S A c R d y ((e7, 22, #[Value.int .i64 0]) :: (e6, 3, #[Value.int .i64 0]) :: Lr) begunP := ⟨gw, cw, cur, evs, hv, M.perm (List.perm_append_comm_assoc [_, _, _, _, _, _, _] [_, _] Lr), HC.out.1, HC.out.2.1, HC.out.2.2.1, HC.out.2.2.2⟩
  clear M HC
  go_loopw [8] (fun i wr => ∃ t P, i = .int .i64 (t : Nat) ∧ t ≤ 40000 ∧ InW w wr S A c R d y ((e7, 22, #[Value.int .i64 0]) :: (e6, 3, #[Value.int .i64 0]) :: Lr) P ∧ RInv S P ∧ P.ev.length = t ∧ P.n ≤ t + 1 ∧ (∀ c, (P.held c).length ≤ t) ∧ runP S picks (40001 - t) t P = X) (fun i _ => 40001 - (intOf i).toNat)
  case atStart => exact ⟨0, begunP, rfl, by omega, H0, HR0.out, rfl, Nat.le_refl _, fun c => Nat.le_refl _, HX0.out⟩
  case round =>
    clear H0 HR0 HX0
    obtain ⟨t, P, rfl, ht, H, hR, hev, hnn, hheld, hrun⟩ := hrel
    have HH := Lib.hid H
    obtain ⟨gw, cw, cur, evs, hv, M, hC, q1, q2, q3⟩ := H
    have HSE := Lib.hid (show Sees w.heap.size wr S A c R d y P gw cw cur evs hv from ⟨M.get 0 rfl, M.get 1 rfl, M.get 2 rfl, M.get 3 rfl, M.get 4 rfl, M.get 6 rfl, HS.out.kept M.own.keep, hC, M.hr⟩)
    have HRD := Lib.hid (ready_any HSE.out HV.out hR HY.out.1 HY.out.2.1 (by omega))
    have hlen : (readyI S P P.n).length = (readyN S P P.n).length := by simp [readyI]
    have HLEN := Lib.hid (readyI_length S P P.n)
    have HRU := Lib.hid hrun
    have HRI := Lib.hid hR
    have HEV := Lib.hid (And.intro hev (And.intro hnn hheld))
    have HQ := Lib.hid (And.intro hC (And.intro q1 (And.intro q2 q3)))
    have HT := Lib.hid ht
    have g0 : (0 : Int) ≤ t := by omega
    have e40 : 40001 - t = (40000 - t) + 1 := by omega
    clear hC q1 q2 q3 hR hrun hnn hev hheld
    by_cases hend : endedN S P P.n = true
    · have HXX := Lib.hid (show X = ⟨1, 0, P⟩ by rw [← HRU.out, e40]; unfold runP; simp [hend])
      rw [hend] at HRD
      clear hend
      go_wp2_with (first
        | go_big_skip
        | (go_at_call 90; refine HRD.out.mono ?_; rintro e V ⟨⟨v, rfl, hMi⟩, K⟩; replace M := M.keeps K; obtain ⟨Al, cl, rfl, hl⟩ := hMi.list; have HL := Lib.hid hl; clear hl hMi K)
        | (refine at_store (.tmp 6) (.const (.int .i64 1)) rfl ?_; refine om_store 8 0 (.int .i64 1) (.tmp 6) (.const (.int .i64 1)) M rfl rfl rfl rfl rfl rfl (by decide) rfl rfl (by kernel_rfl) rfl ?_; clear M; intro V M; simp only [List.set_cons_zero, List.set_cons_succ] at M)
        | (refine at_store (.tmp 7) (.const (.int .i64 0)) rfl ?_; refine om_store 7 0 (.int .i64 0) (.tmp 7) (.const (.int .i64 0)) M rfl rfl rfl rfl rfl rfl (by decide) rfl rfl (by kernel_rfl) rfl ?_; clear M; intro V M; simp only [List.set_cons_zero, List.set_cons_succ] at M))
      refine run_door rfl rfl rfl ?_
      rw [HXX.out]
      exact ⟨gw, cw, cur, evs, hv, M, HQ.out.1, HQ.out.2.1, HQ.out.2.2.1, HQ.out.2.2.2⟩
    · have hend : endedN S P P.n = false := by simpa using hend
      have HEN := Lib.hid hend
      rw [hend] at HRD
      clear hend
      by_cases h4 : 40000 ≤ t
      · have HXX := Lib.hid (show X = ⟨4, 0, P⟩ by rw [← HRU.out, e40]; unfold runP; simp [HEN.out, h4])
        have g1 : (40000 : Int) ≤ t := by omega
        clear h4
        go_wp2_with (first
          | go_big_skip
          | (go_at_call 90; refine HRD.out.mono ?_; rintro e V ⟨⟨v, rfl, hMi⟩, K⟩; replace M := M.keeps K; obtain ⟨Al, cl, rfl, hl⟩ := hMi.list; have HL := Lib.hid hl; clear hl hMi K)
          | (refine at_store (.tmp 6) (.const (.int .i64 4)) rfl ?_; refine om_store 8 0 (.int .i64 4) (.tmp 6) (.const (.int .i64 4)) M rfl rfl rfl rfl rfl rfl (by decide) rfl rfl (by kernel_rfl) rfl ?_; clear M; intro V M; simp only [List.set_cons_zero, List.set_cons_succ] at M)
          | (refine at_store (.tmp 7) (.const (.int .i64 0)) rfl ?_; refine om_store 7 0 (.int .i64 0) (.tmp 7) (.const (.int .i64 0)) M rfl rfl rfl rfl rfl rfl (by decide) rfl rfl (by kernel_rfl) rfl ?_; clear M; intro V M; simp only [List.set_cons_zero, List.set_cons_succ] at M))
        refine run_door rfl rfl rfl ?_
        rw [HXX.out]
        exact ⟨gw, cw, cur, evs, hv, M, HQ.out.1, HQ.out.2.1, HQ.out.2.2.1, HQ.out.2.2.2⟩
      · have g1 : decide ((40000 : Int) ≤ t) = false := by simp; omega
        have HH4 := Lib.hid h4
        clear h4
        by_cases hr0 : readyN S P P.n = []
        · have HXX := Lib.hid (show X = ⟨2, 0, P⟩ by rw [← HRU.out, e40]; unfold runP; simp [HEN.out, HH4.out, hr0])
          rw [show readyI S P P.n = [] by simp [readyI, hr0]] at HRD
          clear hr0 HLEN hlen
          go_wp2_with (first
            | go_big_skip
            | (go_at_call 90; refine HRD.out.mono ?_; rintro e V ⟨⟨v, rfl, hMi⟩, K⟩; replace M := M.keeps K; obtain ⟨Al, cl, rfl, hl⟩ := hMi.list; have HL := Lib.hid hl; clear hl hMi K)
            | (refine at_store (.tmp 6) (.const (.int .i64 2)) rfl ?_; refine om_store 8 0 (.int .i64 2) (.tmp 6) (.const (.int .i64 2)) M rfl rfl rfl rfl rfl rfl (by decide) rfl rfl (by kernel_rfl) rfl ?_; clear M; intro V M; simp only [List.set_cons_zero, List.set_cons_succ] at M)
            | (refine at_store (.tmp 7) (.const (.int .i64 0)) rfl ?_; refine om_store 7 0 (.int .i64 0) (.tmp 7) (.const (.int .i64 0)) M rfl rfl rfl rfl rfl rfl (by decide) rfl rfl (by kernel_rfl) rfl ?_; clear M; intro V M; simp only [List.set_cons_zero, List.set_cons_succ] at M))
          refine run_door rfl rfl rfl ?_
          rw [HXX.out]
          exact ⟨gw, cw, cur, evs, hv, M, HQ.out.1, HQ.out.2.1, HQ.out.2.2.1, HQ.out.2.2.2⟩
        · obtain ⟨hk, f, hI, hcan⟩ := picked S P picks t hr0
          have hm0 : 0 < (readyN S P P.n).length := List.length_pos_iff.2 hr0
          have hpl := pickP_lt picks t _ hm0
          have HXX := Lib.hid (show X = (if (stepP S P ((readyN S P P.n).getD (pickP picks t (readyN S P P.n).length) 0) f).2 = 0 then runP S picks (40000 - t) (t + 1) (stepP S P ((readyN S P P.n).getD (pickP picks t (readyN S P P.n).length) 0) f).1 else ⟨3, (stepP S P ((readyN S P P.n).getD (pickP picks t (readyN S P P.n).length) 0) f).2, (stepP S P ((readyN S P P.n).getD (pickP picks t (readyN S P P.n).length) 0) f).1⟩) by rw [← HRU.out, e40]; conv => lhs; unfold runP; simp only [HEN.out, HH4.out, hr0, hI, if_false, Bool.false_eq_true])
          have hgk : (readyI S P P.n).getD (pickP picks t (readyN S P P.n).length) 0 = (((readyN S P P.n).getD (pickP picks t (readyN S P P.n).length) 0 : Nat) : Int) := by
            unfold readyI
            rw [List.getD_eq_getElem?_getD, List.getD_eq_getElem?_getD, List.getElem?_map, List.getElem?_eq_getElem hpl]
            rfl
          have hev1 : (stepP S P ((readyN S P P.n).getD (pickP picks t (readyN S P P.n).length) 0) f).1.ev.length = t + 1 := by
            obtain ⟨e, he⟩ := stepP_ev S P ((readyN S P P.n).getD (pickP picks t (readyN S P P.n).length) 0) f
            rw [he, List.length_append, HEV.out.1]
            rfl
          have hsm := stepP_small S P ((readyN S P P.n).getD (pickP picks t (readyN S P P.n).length) 0) f
          have hri := stepP_rinv S P _ f HRI.out hk (right_of HV.out (HRI.out _ hk) hI)
          have hpk : ∀ x, picks[t]? = some x → (wrap64 (x.tmod ((readyN S P P.n).length : Int) + ((readyN S P P.n).length : Int))).tmod ((readyN S P P.n).length : Int) = ((pickP picks t (readyN S P P.n).length : Nat) : Int) := fun x hx => by
            rw [mod_twice' x _ hm0 (by have := HLEN.out; have := HEV.out; omega)]
            unfold pickP
            rw [hx]
            have := Int.emod_nonneg x (b := ((readyN S P P.n).length : Int)) (by omega)
            show x % _ = ((x % _).toNat : Int)
            omega
          have hp0 : picks.length ≤ t → pickP picks t (readyN S P P.n).length = 0 := fun h => by
            unfold pickP
            rw [List.getElem?_eq_none h]
          generalize (readyN S P P.n).getD (pickP picks t (readyN S P P.n).length) 0 = k at *
          generalize pickP picks t (readyN S P P.n).length = p at *
          rw [← hlen] at hm0 hpl hpk
          generalize readyI S P P.n = rl at *
          clear hlen hr0 HRU
          have HST := Lib.hid (fun V (H : InW w V S A c R d y ((e7, 22, #[Value.int .i64 0]) :: (e6, 3, #[Value.int .i64 0]) :: Lr) P) => step_any H HS.out HV.out HRI.out hk hI HY.out.1 HY.out.2.1 HY.out.2.2 (by have := HEV.out.1; omega) (fun c => by have := HEV.out.2.2 c; omega))
          have HNX := Lib.hid (And.intro hev1 (And.intro hsm hri))
          have HPK := Lib.hid hpk
          have HP0 := Lib.hid hp0
          have HGK := Lib.hid hgk
          clear hk hI hcan hgk hev1 hsm hri hpk hp0
          generalize stepP S P k f = sp at HST HNX HXX
          generalize hm : rl.length = m at *
          have g2 : ¬ ((m : Int) = 0) := by omega
          have g5 : (p : Int) < m := by omega
          have g6 : (0 : Int) ≤ p := by omega
          have HM0 := Lib.hid (And.intro hm hpl)
          clear hm0 hpl hm
          by_cases hz : sp.2 = 0
          · have HST0 := Lib.hid (show ∀ V, InW w V S A c R d y ((e7, 22, #[Value.int .i64 0]) :: (e6, 3, #[Value.int .i64 0]) :: Lr) P → Calls Try.prog 91 #[.pointer (some ⟨y.wp, 0, none⟩), .int .i64 (k : Int)] V fun e W' => e = .returned (.tuple #[]) ∧ InW w W' S A c R d y ((e7, 22, #[Value.int .i64 0]) :: (e6, 3, #[Value.int .i64 0]) :: Lr) sp.1 from fun V H => (HST.out V H).mono fun e W' h => ⟨by rw [h.2, hz]; rfl, h.1⟩)
            have HZ := Lib.hid (show X = runP S picks (40000 - t) (t + 1) sp.1 by rw [HXX.out, if_pos hz])
            clear hz
            by_cases htp : t < picks.length
            · have g7 : (t : Int) < picks.length := by omega
              obtain ⟨adp, rfl, hbp, hcp⟩ := HP.out (by omega)
              have hpx := HPK.out (picks.getD t 0) (by rw [List.getD_eq_getElem?_getD, List.getElem?_eq_getElem htp]; rfl)
              have HCP := Lib.hid (show ∀ V, Keeps w V [] → V.cell? (adp.add t) = some (.int .i64 (picks.getD t 0)) from fun V K => (K.cellAt (by rw [add_block]; exact hbp) (by simp)).trans (hcp t htp))
              generalize picks.getD t 0 = x at hpx HCP
              clear hbp hcp htp
              go_wp2_with (first
                | go_big_skip
                | (go_at_call 90; refine HRD.out.mono ?_; rintro e V ⟨⟨v, rfl, hMi⟩, K⟩; replace M := M.keeps K; obtain ⟨Al, cl, rfl, hl⟩ := hMi.list; obtain ⟨ad, rfl, hb, hc⟩ := hl (by have := HM0.out; omega); have ck : V.cell? (ad.add p) = some (.int .i64 (k : Int)) := (hc p (by have := HM0.out; omega)).trans (by rw [HGK.out]); rw [HM0.out.1]; clear hl hMi K hb hc; have cP := HCP.out V M.own.keep)
                | (go_at_call 58; refine (more_any _).mono ?_; rintro e V' ⟨rfl, rfl⟩)
                | (go_at_call 91; refine (HST0.out _ ⟨gw, cw, cur, evs, hv, M, HQ.out.1, HQ.out.2.1, HQ.out.2.2.1, HQ.out.2.2.2⟩).mono ?_; rintro e V' ⟨rfl, H'⟩; have HI' := Lib.hid H'; clear H' M ck))
              go_roundw
              case rel => exact ⟨t + 1, sp.1, by go_num, by have := HH4.out; omega, HI'.out, HNX.out.2.2, HNX.out.1, by have := HNX.out.2.1.1; have := HEV.out; omega, fun c => by have := HNX.out.2.1.2 c; have := HEV.out.2.2 c; omega, by rw [show 40001 - (t + 1) = 40000 - t by omega]; exact HZ.out.symm⟩
              case measure => (simp [intOf] <;> omega)
            · have g7 : ¬ (t : Int) < picks.length := by omega
              have hp00 := HP0.out (by omega)
              subst hp00
              clear htp
              go_wp2_with (first
                | go_big_skip
                | (go_at_call 90; refine HRD.out.mono ?_; rintro e V ⟨⟨v, rfl, hMi⟩, K⟩; replace M := M.keeps K; obtain ⟨Al, cl, rfl, hl⟩ := hMi.list; obtain ⟨ad, rfl, hb, hc⟩ := hl (by have := HM0.out; omega); have ck : V.cell? ad = some (.int .i64 (k : Int)) := (by have h0 := (hc 0 (by have := HM0.out; omega)).trans (by rw [HGK.out]); rwa [Addr.add_zero'] at h0); rw [HM0.out.1]; clear hl hMi K hb hc)
                | (go_at_call 58; refine (more_any _).mono ?_; rintro e V' ⟨rfl, rfl⟩)
                | (go_at_call 91; refine (HST0.out _ ⟨gw, cw, cur, evs, hv, M, HQ.out.1, HQ.out.2.1, HQ.out.2.2.1, HQ.out.2.2.2⟩).mono ?_; rintro e V' ⟨rfl, H'⟩; have HI' := Lib.hid H'; clear H' M ck))
              go_roundw
              case rel => exact ⟨t + 1, sp.1, by go_num, by have := HH4.out; omega, HI'.out, HNX.out.2.2, HNX.out.1, by have := HNX.out.2.1.1; have := HEV.out; omega, fun c => by have := HNX.out.2.1.2 c; have := HEV.out.2.2 c; omega, by rw [show 40001 - (t + 1) = 40000 - t by omega]; exact HZ.out.symm⟩
              case measure => (simp [intOf] <;> omega)
          · have HST0 := Lib.hid (show ∀ V, InW w V S A c R d y ((e7, 22, #[Value.int .i64 0]) :: (e6, 3, #[Value.int .i64 0]) :: Lr) P → Calls Try.prog 91 #[.pointer (some ⟨y.wp, 0, none⟩), .int .i64 (k : Int)] V fun e W' => e = .panicked [{ v := .iface 22 (.int .i64 sp.2), recovered := false }] ∧ InW w W' S A c R d y ((e7, 22, #[Value.int .i64 0]) :: (e6, 3, #[Value.int .i64 0]) :: Lr) sp.1 from fun V H => (HST.out V H).mono fun e W' h => ⟨by rw [h.2]; unfold stepEnd; rw [if_neg hz], h.1⟩)
            have HZ := Lib.hid (show X = ⟨3, sp.2, sp.1⟩ by rw [HXX.out, if_neg hz])
            clear hz
            by_cases htp : t < picks.length
            · have g7 : (t : Int) < picks.length := by omega
              obtain ⟨adp, rfl, hbp, hcp⟩ := HP.out (by omega)
              have hpx := HPK.out (picks.getD t 0) (by rw [List.getD_eq_getElem?_getD, List.getElem?_eq_getElem htp]; rfl)
              have HCP := Lib.hid (show ∀ V, Keeps w V [] → V.cell? (adp.add t) = some (.int .i64 (picks.getD t 0)) from fun V K => (K.cellAt (by rw [add_block]; exact hbp) (by simp)).trans (hcp t htp))
              generalize picks.getD t 0 = x at hpx HCP
              clear hbp hcp htp
              go_wp2_with (first
                | go_big_skip
                | (go_at_call 90; refine HRD.out.mono ?_; rintro e V ⟨⟨v, rfl, hMi⟩, K⟩; replace M := M.keeps K; obtain ⟨Al, cl, rfl, hl⟩ := hMi.list; obtain ⟨ad, rfl, hb, hc⟩ := hl (by have := HM0.out; omega); have ck : V.cell? (ad.add p) = some (.int .i64 (k : Int)) := (hc p (by have := HM0.out; omega)).trans (by rw [HGK.out]); rw [HM0.out.1]; clear hl hMi K hb hc; have cP := HCP.out V M.own.keep)
                | (go_at_call 58; refine (more_any _).mono ?_; rintro e V' ⟨rfl, rfl⟩)
                | (go_at_call 91; refine (HST0.out _ ⟨gw, cw, cur, evs, hv, M, HQ.out.1, HQ.out.2.1, HQ.out.2.2.1, HQ.out.2.2.2⟩).mono ?_; rintro e V' ⟨rfl, H'⟩; have HI' := Lib.hid H'; clear H' M ck))
              rw [HZ.out]
              exact run_panic (X := ⟨3, sp.2, sp.1⟩) rfl rfl rfl HI'.out rfl
            · have g7 : ¬ (t : Int) < picks.length := by omega
              have hp00 := HP0.out (by omega)
              subst hp00
              clear htp
              go_wp2_with (first
                | go_big_skip
                | (go_at_call 90; refine HRD.out.mono ?_; rintro e V ⟨⟨v, rfl, hMi⟩, K⟩; replace M := M.keeps K; obtain ⟨Al, cl, rfl, hl⟩ := hMi.list; obtain ⟨ad, rfl, hb, hc⟩ := hl (by have := HM0.out; omega); have ck : V.cell? ad = some (.int .i64 (k : Int)) := (by have h0 := (hc 0 (by have := HM0.out; omega)).trans (by rw [HGK.out]); rwa [Addr.add_zero'] at h0); rw [HM0.out.1]; clear hl hMi K hb hc)
                | (go_at_call 58; refine (more_any _).mono ?_; rintro e V' ⟨rfl, rfl⟩)
                | (go_at_call 91; refine (HST0.out _ ⟨gw, cw, cur, evs, hv, M, HQ.out.1, HQ.out.2.1, HQ.out.2.2.1, HQ.out.2.2.2⟩).mono ?_; rintro e V' ⟨rfl, H'⟩; have HI' := Lib.hid H'; clear H' M ck))
              rw [HZ.out]
              exact run_panic (X := ⟨3, sp.2, sp.1⟩) rfl rfl rfl HI'.out rfl
end
end Go.Proofs.Ytakmcpadkanggaa
namespace Go.Proofs.Ytakmcpadkanggaa
open Go.RowKit Go.Maps Go.Deep
/-- A run as it is handed out. -/
def runC (fin fault : Int) (evs : Value) (n : Nat) (cells : Value) : Array Value := #[.int .i64 fin, .int .i64 fault, evs, .int .i64 n, cells]
/-- Where what a run tells lies. -/
structure RunAt (w W : World) (S : Sys) (X : RunP) (evs cells : Value) : Prop where
  keep : Keeps w W []
  evr : W.ownsRow w.heap.size 37 5 evs X.P.ev.length (evL (lE X.P.ev) X.P.ev.length)
  cell : ∃ bc m, cells = .slice (some ⟨bc, 0, none⟩) m m ∧ S.ce = (m : Int) ∧ Blk W bc 3 (arrI m X.P.ce) ∧ w.heap.size ≤ bc
def PlayPost (w : World) (S : Sys) (picks : List Int) (e : Ending) (W : World) : Prop :=
  ∃ evs cells, e = .returned (.tuple #[.agg (runC (playP S picks).fin (playP S picks).fault evs (playP S picks).P.n cells), .int .i64 0]) ∧ RunAt w W S (playP S picks) evs cells
theorem Own.perm {w W : World} {L L' : List Ent} (O : Own w W [] L) (h : L'.Perm L) : Own w W [] L' := ⟨O.keep, fun q hq => O.blk q (h.mem_iff.1 hq), fun q hq => O.new q (h.mem_iff.1 hq), (h.map _).nodup_iff.2 O.nd⟩
section
variable {w W : World} {S : Sys} {A : Option Addr} {c : Nat} {R : Option Addr} {d : Nat} {picks : List Int} {pv : Value}
theorem InW.start {y : Ly} {Lr : List Ent} {gw : Nat} (O : Own w W [] ((y.wp, 110, wpC y S.nr gw 1 1 (.slice none 0 0)) :: (gw, 174, rnC ⟨0, 0, fun _ => 0⟩) :: (y.bp, 186, pipesA S.nr (fun _ => .slice none 0 0) (fun _ => false)) :: (y.bl, 4, arrB y.lk fun _ => false) :: (y.bg, 3, arrI y.gr fun _ => 0) :: (y.bc, 3, arrI y.ce fun _ => 0) :: (y.ps, 27, sysV S A c R d) :: Lr)) : InW w W S A c R d y Lr begunP := by
  refine ⟨gw, 1, rnC ⟨0, 0, fun _ => 0⟩, .slice none 0 0, fun _ => .slice none 0 0, ⟨O, World.ownsRow_nil _ _ _ _, fun c _ => HRow.nil _ _, fun q _ h => (by cases h), fun c _ q _ h => (by cases h), fun c c' _ _ _ g h => (by cases h)⟩, fun k hk f hf => ?_, Nat.le_refl _, by simp [maxLen], rfl⟩
  have hk1 : k < 1 := hk
  obtain rfl : k = 0 := by omega
  simp [begunP]
set_option maxRecDepth 100000 in
theorem play_bad (hS : SysIn w S A c R d) (hv : validB S = false) : Calls Try.prog 25 #[.agg (sysV S A c R d), pv] w fun e w' => e = .returned (.tuple #[.agg #[Value.int .i64 0, .int .i64 0, .slice none 0 0, .int .i64 0, .slice none 0 0], .int .i64 130]) ∧ Keeps w w' [] := by
  have O := Own.start w []
  have HV := Lib.hid (fun u (k : Keeps w u []) => show Calls Try.prog 21 #[.agg (sysV S A c R d)] u fun e w' => e = .returned (.int .i64 130) ∧ Keeps u w' [] from by have := valid_any (hS.kept k); rwa [validE_no hv] at this)
  clear hS hv
  go_enter Try.func25, Try.ntmps25
  go_wp2_with (first
    | go_big_skip
    | (refine own_box 2 (sysV S A c R d) O rfl rfl rfl rfl ?_; clear O; intro W ps O; simp only [Act.put, List.setIfInBounds_toArray, List.set_cons_zero, List.set_cons_succ])
    | (refine own_alloc 4 (#[Value.int .i64 0, .int .i64 0, .slice none 0 0, .int .i64 0, .slice none 0 0]) O rfl rfl rfl (fun _ => by kernel_rfl) ?_; clear O; intro W a4 O; simp only [Act.put, List.setIfInBounds_toArray, List.set_cons_zero, List.set_cons_succ])
    | (refine own_load 10 1 O rfl rfl rfl rfl rfl Try.underlying27 rfl (by kernel_rfl) ?_; simp only [Act.put, List.setIfInBounds_toArray, List.set_cons_zero, List.set_cons_succ])
    | (go_at_call 21; refine (HV.out _ O.keep).mono ?_; rintro e W ⟨rfl, K⟩; replace O := O.keeps K; clear K)
    | (refine wpList_const 14 (.agg #[Value.int .i64 0, .int .i64 0, .slice none 0 0, .int .i64 0, .slice none 0 0]) rfl rfl (fun _ => by kernel_rfl) ?_; simp only [Act.put, List.setIfInBounds_toArray, List.set_cons_zero, List.set_cons_succ])
    | (refine own_store_row 0 (.tmp 4) (.tmp 14) O rfl rfl rfl rfl rfl rfl (by kernel_rfl) (by rfl) (by decide) ?_; clear O; intro W O; simp only [List.set_cons_zero] at O))
  refine bodyPost_ret (v := .tuple #[.agg #[Value.int .i64 0, .int .i64 0, .slice none 0 0, .int .i64 0, .slice none 0 0], .int .i64 130]) (results_cell_tmp rfl _ _ a4 33 _ _ rfl (O.get 0 rfl) Try.underlying33 rfl (by kernel_rfl) _ rfl) rfl ⟨rfl, O.keep⟩
set_option maxRecDepth 100000 in
set_option maxHeartbeats 2000000 in
theorem play_good (hS : SysIn w S A c R d) (hv : validB S = true) (hp : IntL w pv picks) : Calls Try.prog 25 #[.agg (sysV S A c R d), pv] w (PlayPost w S picks) := by
  have O := Own.start w []
  have HV := Lib.hid (fun u (k : Keeps w u []) => show Calls Try.prog 21 #[.agg (sysV S A c R d)] u fun e w' => e = .returned (.int .i64 0) ∧ Keeps u w' [] from by have := valid_any (hS.kept k); rwa [validE_yes hv] at this)
  have hh := (headB_iff S).1 ((validB_iff S).1 hv).1
  have h3 := hh.2.2.2.1
  have h4 := hh.2.2.2.2.1
  have h5 := hh.2.2.2.2.2
  rw [shB_iff] at h3 h4 h5
  have hnr : S.nr ≤ 64 := hh.2.2.1
  obtain ⟨gr, hgr⟩ : ∃ m : Nat, S.gr = (m : Int) := ⟨S.gr.toNat, by omega⟩
  obtain ⟨lk, hlk⟩ : ∃ m : Nat, S.lk = (m : Int) := ⟨S.lk.toNat, by omega⟩
  obtain ⟨ce, hce⟩ : ∃ m : Nat, S.ce = (m : Int) := ⟨S.ce.toNat, by omega⟩
  have HB := Lib.hid (fun u ps (hB : Blk u ps 27 (sysV S A c R d)) => begun_any hB (by omega) hlk hgr hce (by omega) (by omega) (by omega))
  have HR := Lib.hid (fun u (y : Ly) (Lr : List Ent) (h : InW w u S A c R d y Lr begunP) (e1 : y.lk = lk) (e2 : y.gr = gr) (e3 : y.ce = ce) => run_any h hS hv (by rw [e1]; exact hlk) (by rw [e2]; exact hgr) (by rw [e3]; exact hce) hp)
  have HC := Lib.hid hce
  clear hS hv hp hh h3 h4 h5 hnr hgr hlk hce
  unfold PlayPost
  generalize playP S picks = X at *
  go_enter Try.func25, Try.ntmps25
  go_wp2_with (first
    | go_big_skip
    | (refine own_box 2 (sysV S A c R d) O rfl rfl rfl rfl ?_; clear O; intro W ps O; simp only [Act.put, List.setIfInBounds_toArray, List.set_cons_zero, List.set_cons_succ])
    | (refine own_alloc 4 (#[Value.int .i64 0, .int .i64 0, .slice none 0 0, .int .i64 0, .slice none 0 0]) O rfl rfl rfl (fun _ => by kernel_rfl) ?_; clear O; intro W a4 O; simp only [Act.put, List.setIfInBounds_toArray, List.set_cons_zero, List.set_cons_succ])
    | (refine own_load 10 1 O rfl rfl rfl rfl rfl Try.underlying27 rfl (by kernel_rfl) ?_; simp only [Act.put, List.setIfInBounds_toArray, List.set_cons_zero, List.set_cons_succ])
    | (go_at_call 21; refine (HV.out _ O.keep).mono ?_; rintro e W ⟨rfl, K⟩; replace O := O.keeps K; clear K)
    | (go_at_call 56; refine (HB.out _ ps (O.get 1 rfl)).mono ?_; rintro e W ⟨wp, gw, bp, bl, bg, bc, rfl, O1⟩; have HI := Lib.hid (InW.start (y := ⟨ps, wp, bp, bl, bg, bc, lk, gr, ce⟩) (Lr := [(a4, 33, #[Value.int .i64 0, .int .i64 0, .slice none 0 0, .int .i64 0, .slice none 0 0])]) ((O.join O1).perm (List.Perm.append_left [_, _, _, _, _, _] (List.Perm.swap _ _ [])))); clear O O1)
    | (go_at_call 57; refine (HR.out _ _ _ HI.out rfl rfl rfl).mono ?_; rintro e W ⟨rfl, HJ⟩; have HK := Lib.hid HJ; clear HJ HI))
  obtain ⟨gw, cw, cur, evs, hv, M, hC, q1, q2, q3⟩ := HK.out
  obtain ⟨Ae, ne, cE, rfl⟩ : ∃ A n c, evs = .slice A n c := by
    rcases M.evr.2 with ⟨h, _⟩ | ⟨g, cap, cur, h, _⟩
    · exact ⟨_, _, _, h⟩
    · exact ⟨_, _, _, h⟩
  have cw' : ∀ (p : Later W) i, p.1.cell? ⟨wp, i, none⟩ = #[Value.pointer (some ⟨ps, 0, none⟩), .slice (some ⟨gw, 0, none⟩) X.P.n cw, .slice (some ⟨bp, 0, none⟩) S.nr S.nr, .slice (some ⟨bl, 0, none⟩) lk lk, .slice (some ⟨bg, 0, none⟩) gr gr, .slice (some ⟨bc, 0, none⟩) ce ce, .slice Ae ne cE][i]? := Later.cell (M.get 0 rfl)
  clear HV HB HR HK hC q1 q2 q3
  refine wp_quiet_tail_later 15 (by kernel_rfl) (by kernel_rfl) ?_
  simp only [List.take, List.drop]
  repeat (first
    | go_big_quiet_skip
    | go_big_quiet_step (fail))
  refine wpQuiet_nil ?_
  intro _ hw
  obtain ⟨p', rfl⟩ := hw
  replace M := M.keeps p'.2
  clear cw'
  generalize p'.1 = V at M ⊢
  go_wp2_with (first
    | (refine wpList_const 38 (.agg (runC X.fin X.fault (.slice Ae ne cE) X.P.n (.slice (some ⟨bc, 0, none⟩) ce ce))) rfl rfl (fun _ => by kernel_rfl) ?_; simp only [Act.put, List.setIfInBounds_toArray, List.set_cons_zero, List.set_cons_succ])
    | (refine om_store_row 7 (.tmp 4) (.tmp 38) (cs' := runC X.fin X.fault (.slice Ae ne cE) X.P.n (.slice (some ⟨bc, 0, none⟩) ce ce)) M rfl rfl rfl rfl rfl rfl (by kernel_rfl) (by rfl) ?_ ?_; rotate_left; clear M; intro V M; simp only [List.set_cons_zero, List.set_cons_succ] at M)
    | go_big_skip)
  · refine bodyPost_ret (v := .tuple #[.agg (runC X.fin X.fault (.slice Ae ne cE) X.P.n (.slice (some ⟨bc, 0, none⟩) ce ce)), .int .i64 0]) (results_cell_tmp rfl _ _ a4 33 _ _ rfl (M.get 7 rfl) Try.underlying33 rfl (by kernel_rfl) _ rfl) rfl ⟨_, _, rfl, M.own.keep, M.evr, bc, ce, rfl, HC.out, M.get 5 rfl, ?_⟩
    rcases Nat.lt_or_ge bc w.heap.size with h | h
    · exact absurd (M.own.new _ (List.mem_of_getElem? (show _ = some _ from (rfl : _[5]? = _))) h) (by simp)
    · exact h
  · intro v hv'
    simp [runC] at hv'
    rcases hv' with rfl | rfl | rfl | rfl | rfl <;> rfl
end
end Go.Proofs.Ytakmcpadkanggaa
namespace Go.Proofs.Ytakmcpadkanggaa
open Go.RowKit Go.Maps Go.Deep
section
variable {ops : Array Oper} {rest : List Oper} {o : Oper} {a : Act} {w W : World} {Q : Exit → Act → World → Prop} {Sx : List Nat} {L : List Ent}
set_option maxRecDepth 100000 in
/-- A new row of given cells. -/
theorem own_lit (d T e len : Nat) (size : Nat) (z : Value) (parts : Array (Nat × Operand)) (cells : Array Value) (O : Own w W Sx L) (_hd : o.dst = some d) (hgd : o.guard = none) (ho : o.op = .buildSlice T len parts) (ht : Try.prog.underlying T = some (.slice e))
    (hi : (Try.prog.info? e).map (fun i => (i.zero, i.size)) = some (some z, size)) (h1 : ¬ len * size > 2 ^ 24) (h2 : ¬ len * size = 0)
    (hf : Instr.fill (fun i => some (i * size, size)) ((Array.range (len * size)).map (z.cells[· % z.cells.size]!)) (parts.map fun (i, x) => (i, a.eval x)).toList = some cells)
    (h : ∀ u g, Own w u Sx ((g, e, cells) :: L) → wpList Try.prog ops Q rest (a.put o.dst (.slice (some ⟨g, 0, none⟩) len len)) u) : wpList Try.prog ops Q (o :: rest) a W := by
  obtain ⟨i, hi2, he⟩ := Option.map_eq_some_iff.1 hi
  simp only [Prod.mk.injEq] at he
  obtain ⟨hz, hs⟩ := he
  subst hs
  have k := (Keeps.refl W []).alloc (.cells cells e)
  exact wpList_buildSlice hgd T e len parts ho cells i z ht hi2 hz h1 h2 hf (h _ _ (O.add k (Blk.new _ _ _)))
end
section
variable {w : World}
/-- The events of a run, where they lie. -/
theorem RunAt.evs {w W : World} {S : Sys} {X : RunP} {evs cells : Value} (h : RunAt w W S X evs cells) : ∃ A c, evs = .slice A X.P.ev.length c ∧ EvsAt W A X.P.ev.length (lE X.P.ev) ∧ X.P.ev.length ≤ c ∧ c ≤ maxLen := by
  have hc := fun g hg j u hu => h.evr.cells (g := g) hg j u hu
  have hl := h.evr.lt
  rcases h.evr.2 with ⟨rfl, h0⟩ | ⟨g, cap, cur, rfl, _, hB, h1, h2, _⟩
  · rw [h0]
    exact ⟨none, 0, rfl, fun h => by omega, Nat.le_refl _, by simp [maxLen]⟩
  · refine ⟨_, cap, rfl, fun hn => ⟨_, rfl, (hl g rfl).2, fun i j hi hj => ?_⟩, h1, h2⟩
    rw [evC_getD _ _ hj]
    refine hc g rfl (i * 5 + j) _ ?_
    have hlt : i * 5 + j < X.P.ev.length * 5 := by omega
    simp only [evL, List.getElem?_map, List.getElem?_range hlt, Option.map_some]
    rw [show (i * 5 + j) / 5 = i by omega, show (i * 5 + j) % 5 = j by omega]
theorem RunAt.kept {w W u : World} {S : Sys} {X : RunP} {evs cells : Value} (h : RunAt w W S X evs cells) (k : Keeps W u []) : RunAt w u S X evs cells := by
  obtain ⟨h1, h2, bc, m, h3, h4, h5, h6⟩ := h
  exact ⟨h1.trans k (by simp), ownsRow_keeps h2 k (by simp), bc, m, h3, h4, h5.keeps k (by simp), h6⟩
theorem runC_cell (fin fault : Int) (evs : Value) (n : Nat) (cells : Value) (h : evs.oneCell' = true) (h' : cells.oneCell' = true) : ∀ v ∈ (runC fin fault evs n cells).toList, v.oneCell' = true := by
  intro v hv
  simp [runC] at hv
  rcases hv with rfl | rfl | rfl | rfl | rfl
  · rfl
  · rfl
  · exact h
  · rfl
  · exact h'
end
end Go.Proofs.Ytakmcpadkanggaa
namespace Go.Proofs.Ytakmcpadkanggaa
open Go.RowKit Go.Maps Go.Deep
def aliveS : Sys := ⟨1, fun _ => 0, fun _ _ _ => 0, 0, fun _ => 0, 0, 0, 1⟩
theorem rowT24 : RowT 24 97 1 24 (.slice none 0 0) := by
  have h : (Try.prog.info? 97).map (fun i => (i.zero, i.size, i.bytes)) = some (some (.slice none 0 0), 1, 24) := by kernel_rfl
  obtain ⟨i, hi, he⟩ := Option.map_eq_some_iff.1 h
  simp only [Prod.mk.injEq] at he
  exact ⟨Try.underlying24, ⟨i, hi, he.1, he.2.1, he.2.2⟩, rfl, by decide⟩
variable {w : World}
set_option maxRecDepth 100000 in
theorem small14_any : Calls Try.prog 78 #[] w fun e u => (∃ A c, e = .returned (.agg (sysV aliveS A c none 0)) ∧ SysIn u aliveS A c none 0) ∧ Keeps w u [] := by
  have O := Own.start w []
  go_enter Try.func78, Try.ntmps78
  go_wp2_with (first
    | (refine own_alloc 0 (#[Value.slice none 0 0, .slice none 0 0, .int .i64 0, .int .i64 0, .int .i64 0]) O rfl rfl rfl (fun _ => by kernel_rfl) ?_; clear O; intro W a0 O; simp only [Act.put, List.setIfInBounds_toArray, List.set_cons_zero, List.set_cons_succ])
    | (refine own_alloc 1 (#[Value.slice none 0 0, .slice none 0 0, .int .i64 0, .int .i64 0, .int .i64 0]) O rfl rfl rfl (fun _ => by kernel_rfl) ?_; clear O; intro W a1 O; have c1 := (O.get 0 rfl).cell 0; simp only [Act.put, List.setIfInBounds_toArray, List.set_cons_zero, List.set_cons_succ])
    | (refine own_lit 4 24 97 1 1 (.slice none 0 0) _ (#[Value.slice none 0 0]) O rfl rfl rfl Try.underlying24 (by kernel_rfl) (by decide) (by decide) (by kernel_rfl) ?_; clear O c1; intro W gl O; simp only [Act.put, List.setIfInBounds_toArray, List.set_cons_zero, List.set_cons_succ])
    | (at_builtin; (refine gr_app (z := .slice none 0 0) (.tmp 3) (.tmp 4) rowT24 O (gr_nil w.heap.size 97 1 W) rfl (by simp [Value.oneCell']) rfl rfl rfl rfl (Nat.le_refl _) O.keep.size (fun q _ => by simp [Value.ownBlock]) (by decide) (by decide) ?_; clear O; intro v1 W O M K _; clear K; obtain ⟨A1, k1, hv1, hnz, hc1, hc2⟩ := gr_shape M; subst hv1; simp only [Act.put, List.setIfInBounds_toArray, List.set_cons_zero, List.set_cons_succ]))
    | (refine own_storeK (cs' := #[.slice A1 1 k1, .slice none 0 0, .int .i64 0, .int .i64 0, .int .i64 0]) 0 0 (.slice A1 1 k1) (.tmp 6) (.tmp 5) O rfl rfl rfl rfl rfl rfl (by simp) rfl rfl (by kernel_rfl) rfl ?_; have hne := gr_ne M (O.get 0 rfl) (by decide); clear O; intro W O K; replace M := gr_keeps M K (fun g hg hm => hne (by rw [List.mem_singleton.1 hm] at hg; exact hg)); clear K hne; simp only [List.set_cons_zero, List.set_cons_succ] at O)
    | (refine own_storeK (cs' := sysV aliveS A1 k1 none 0) 0 4 (.int .i64 1) (.tmp 7) (.const (.int .i64 1)) O rfl rfl rfl rfl rfl rfl (by simp) rfl rfl (by kernel_rfl) rfl ?_; have hne := gr_ne M (O.get 0 rfl) (by decide); clear O; intro W O K; replace M := gr_keeps M K (fun g hg hm => hne (by rw [List.mem_singleton.1 hm] at hg; exact hg)); clear K hne; simp only [List.set_cons_zero, List.set_cons_succ] at O)
    | ((refine own_store_rowK 1 (.tmp 0) (.tmp 8) (cs' := sysV aliveS A1 k1 none 0) O rfl rfl rfl rfl rfl rfl (by kernel_rfl) (by rfl) (by simp [sysV, Value.oneCell']) ?_; have hne := gr_ne M (O.get 1 rfl) (by decide); clear O; intro W O K; replace M := gr_keeps M K (fun g hg hm => hne (by rw [List.mem_singleton.1 hm] at hg; exact hg)); clear K hne; simp only [List.set_cons_zero, List.set_cons_succ] at O))
    | (refine own_load 8 0 O rfl rfl rfl rfl rfl Try.underlying27 rfl (by kernel_rfl) ?_; simp only [Act.put, List.setIfInBounds_toArray, List.set_cons_zero, List.set_cons_succ])
    | go_big_skip)
  refine bodyPost_ret (v := .agg (sysV aliveS A1 k1 none 0)) (results_cell_row rfl _ _ a0 27 _ _ _ rfl (O.get 1 rfl) Try.underlying27 rfl (by kernel_rfl)) rfl ⟨⟨_, _, rfl, ⟨fun _ => ?_, fun h => absurd h (by decide), hc1, hc2, Nat.le_refl _, by simp [maxLen]⟩⟩, O.keep⟩
  have hA : A1 ≠ none := fun h => absurd (hnz h).1 (by decide)
  obtain ⟨ad, rfl⟩ : ∃ ad, A1 = some ad := Option.ne_none_iff_exists'.1 hA
  have hc := gr_cell M rfl (j := 0) (x := .slice none 0 0) rfl
  refine ⟨ad, rfl, hc.1, fun p hp => ⟨none, 0, ?_, Nat.le_refl _, by simp [maxLen], fun h => absurd (show 0 < 0 from h) (by decide)⟩⟩
  obtain rfl : p = 0 := by have h : p < 1 := hp; omega
  exact hc.2
end Go.Proofs.Ytakmcpadkanggaa
namespace Go.Proofs.Ytakmcpadkanggaa
open Go.RowKit
/-- Event i is behind event j: a chain of edges leads from i to j. -/
inductive Bh (E : Nat → Ev) (rm : Int → Int) : Nat → Nat → Prop where
  | edge {i j : Nat} : (i : Int) ∈ intoL E rm j → Bh E rm i j
  | step {i k j : Nat} : Bh E rm i k → (k : Int) ∈ intoL E rm j → Bh E rm i j
section
variable {S : Sys} {E : Nat → Ev} {rm : Int → Int} {n i j k : Nat}
theorem Bh.trans (h : Bh E rm i k) (h' : Bh E rm k j) : Bh E rm i j := by
  induction h' with
  | edge h' => exact .step h h'
  | step _ h' ih => exact .step ih h'
theorem Bh.lt (hok : OkAll S E n) (h : Bh E rm i j) (hj : j < n) : i < j := by
  induction h with
  | edge h => have := intoL_lt (hok _ hj) h; omega
  | step _ h ih =>
    have h1 := intoL_lt (hok _ hj) h
    have := ih (by omega)
    omega
theorem behT_old : ∀ {m : Nat}, j < m → behT E rm i m (j : Int) = behT E rm i (j + 1) (j : Int)
  | m + 1, h => by
    by_cases e : j = m
    · rw [e]
    · rw [behT, updI_other _ _ _ _ (by omega)]
      exact behT_old (by omega)
theorem behT_at : behT E rm i (j + 1) (j : Int) = (decide (i < j) && (intoL E rm j).any (behP (behT E rm i j) i)) := by
  rw [behT, updI_same]
theorem behT_iff (hok : OkAll S E n) : ∀ j, j < n → (behT E rm i n (j : Int) = true ↔ Bh E rm i j) := by
  intro j
  induction j using Nat.strongRecOn with
  | ind j ih =>
    intro hj
    rw [behT_old hj, behT_at]
    constructor
    · intro h
      obtain ⟨_, h2⟩ := Bool.and_eq_true_iff.1 h
      obtain ⟨x, hx, hp⟩ := List.any_eq_true.1 h2
      obtain ⟨h0, h1⟩ := intoL_lt (hok _ hj) hx
      obtain ⟨p, rfl⟩ : ∃ p : Nat, x = (p : Int) := ⟨x.toNat, by omega⟩
      unfold behP at hp
      rcases Bool.or_eq_true_iff.1 hp with hp | hp
      · have e : p = i := by have := eq_of_beq hp; omega
        subst e
        exact .edge hx
      · rw [behT_old (show p < j by omega), ← behT_old (show p < n by omega)] at hp
        exact .step ((ih p (by omega) (by omega)).1 hp) hx
    · intro h
      have hlt := h.lt hok hj
      rw [decide_eq_true hlt, Bool.true_and, List.any_eq_true]
      cases h with
      | edge h => exact ⟨_, h, by simp [behP]⟩
      | step h hk =>
        rename_i k
        obtain ⟨_, h1⟩ := intoL_lt (hok _ hj) hk
        refine ⟨_, hk, ?_⟩
        unfold behP
        rw [behT_old (show k < j by omega), ← behT_old (show k < n by omega), (ih k (by omega) (by omega)).2 h, Bool.or_true]
end
end Go.Proofs.Ytakmcpadkanggaa
namespace Go.Proofs.Ytakmcpadkanggaa
open Go.RowKit
section
variable {S : Sys} {E : Nat → Ev} {rm : Int → Int} {n i j k : Nat}
theorem lastN_some {w : Int} : ∀ {j : Nat}, i < j → (E i).who = w → ∃ l : Nat, lastN E w j = some (l : Int) ∧ i ≤ l ∧ l < j ∧ (E l).who = w
  | j + 1, h, hw => by
    by_cases e : (E j).who = w
    · exact ⟨j, by simp [lastN, e], by omega, by omega, e⟩
    · have hij : i ≠ j := fun e' => e (e' ▸ hw)
      obtain ⟨l, h1, h2, h3, h4⟩ := lastN_some (j := j) (by omega) hw
      exact ⟨l, by simp [lastN, e, h1], h2, by omega, h4⟩
theorem own_last {l : Nat} {w : Int} (h : lastN E w j = some (l : Int)) : (l : Int) ∈ ownL (lkN E j) w := by
  rw [ownL_lk, h]
  simp
theorem own_behind (hok : OkAll S E n) : ∀ j, j < n → ∀ i, i < j → (E i).who = (E j).who → Bh E rm i j := by
  intro j
  induction j using Nat.strongRecOn with
  | ind j ih =>
    intro hj i hij hw
    obtain ⟨l, h1, h2, h3, h4⟩ := lastN_some hij hw
    have hm : (l : Int) ∈ intoL E rm j := (intoL_mem (hok _ hj) _).2 ⟨List.mem_append_left _ (own_last h1), by omega⟩
    by_cases e : i = l
    · subst e; exact .edge hm
    · exact .step (ih l h3 (by omega) i (by omega) (by rw [hw, h4])) hm
theorem edge_le (hok : OkAll S E n) (hj : j < n) (h : (i : Int) ∈ intoL E rm j) (w : Int) : clk E rm i w + (if (E j).who = w then 1 else 0) ≤ clk E rm j w := by
  rw [clk_eq (hok _ hj) w]
  have := maxL_le (List.mem_map.2 ⟨(i : Int), h, rfl⟩ : clk E rm i w ∈ (intoL E rm j).map fun x => clk E rm x w)
  omega
theorem bh_le (hok : OkAll S E n) (h : Bh E rm i j) (w : Int) (hj : j < n) : clk E rm i w + (if (E j).who = w then 1 else 0) ≤ clk E rm j w := by
  induction h with
  | edge h => exact edge_le hok hj h w
  | step _ h ih =>
    have h1 := intoL_lt (hok _ hj) h
    have h2 := ih (by omega)
    have h3 := edge_le hok hj h w
    split at h2 <;> omega
theorem clk_from (hok : OkAll S E n) (w : Int) : ∀ j, j < n → 0 < clk E rm j w → ∃ i, (E i).who = w ∧ clk E rm i w = clk E rm j w ∧ (i = j ∨ Bh E rm i j) := by
  intro j
  induction j using Nat.strongRecOn with
  | ind j ih =>
    intro hj h0
    by_cases e : (E j).who = w
    · exact ⟨j, e, rfl, .inl rfl⟩
    · have hc := clk_eq (rm := rm) (hok _ hj) w
      rw [if_neg e, Int.add_zero] at hc
      rcases maxL_mem ((intoL E rm j).map fun x => clk E rm x w) with h | h
      · omega
      · obtain ⟨x, hx, hx2⟩ := List.mem_map.1 h
        obtain ⟨h1, h2⟩ := intoL_lt (hok _ hj) hx
        obtain ⟨p, rfl⟩ : ∃ p : Nat, x = (p : Int) := ⟨x.toNat, by omega⟩
        have he : clk E rm p w = clk E rm j w := by rw [hc]; exact hx2
        obtain ⟨i, hi, hi2, hi3⟩ := ih p (by omega) (by omega) (by omega)
        refine ⟨i, hi, by rw [hi2, he], .inr ?_⟩
        rcases hi3 with rfl | hi3
        · exact .edge hx
        · exact .step hi3 hx
/-- The clocks' theorem. -/
theorem bh_clk (hok : OkAll S E n) (hi : i < n) (hj : j < n) : Bh E rm i j ↔ i < j ∧ clk E rm i (E i).who ≤ clk E rm j (E i).who := by
  constructor
  · intro h
    have := bh_le hok h (E i).who hj
    refine ⟨h.lt hok hj, ?_⟩
    split at this <;> omega
  · rintro ⟨hlt, hle⟩
    have h1 : 1 ≤ clk E rm i (E i).who := by
      rw [clk_eq (hok _ hi), if_pos rfl]
      have := maxL_nonneg ((intoL E rm i).map fun x => clk E rm x (E i).who)
      omega
    obtain ⟨q, hq, hq2, hq3⟩ := clk_from (rm := rm) hok (E i).who j hj (by omega)
    have hqj : q ≤ j := by
      rcases hq3 with rfl | h
      · omega
      · have := h.lt hok hj; omega
    rcases Nat.lt_trichotomy q i with h | rfl | h
    · have := bh_le hok (own_behind (rm := rm) hok i hi q h hq) (E i).who hi
      rw [if_pos rfl] at this
      omega
    · rcases hq3 with rfl | h
      · omega
      · exact h
    · have hb := own_behind (rm := rm) hok q (by omega) i h hq.symm
      rcases hq3 with rfl | h'
      · exact hb
      · exact hb.trans h'
theorem bef_beh (hok : OkAll S E n) (hi : i < n) (hj : j < n) : befB E rm i j = behT E rm i n (j : Int) := by
  rw [Bool.eq_iff_iff, behT_iff hok j hj, bh_clk hok hi hj]
  unfold befB
  simp
end
end Go.Proofs.Ytakmcpadkanggaa
namespace Go.Proofs.Ytakmcpadkanggaa
open Go.RowKit Go.Maps Go.Deep
/-- What the document's Before answers. -/
def refBR (S : Sys) (E : Nat → Ev) (n : Nat) (i j : Int) : Bool × Int :=
  if (thr S E n).2.2 = 0 then (if (0 ≤ i ∧ i < n) ∧ (0 ≤ j ∧ j < n) then (behT E (rmS S) i.toNat n j, 0) else (false, 1)) else (false, (thr S E n).2.2)
end Go.Proofs.Ytakmcpadkanggaa
namespace Go.Proofs.Ytakmcpadkanggaa
open Go.RowKit
theorem before_eq (S : Sys) (E : Nat → Ev) (n : Nat) (i j : Int) : beforeR S E n i j = refBR S E n i j := by
  by_cases h : (thr S E n).2.2 = 0
  · by_cases hb : (0 ≤ i ∧ i < n) ∧ (0 ≤ j ∧ j < n)
    · have ha : [i, j].all (insB n) = true := by simp [insB, hb]
      obtain ⟨_, _, hok⟩ := thr_zero h
      obtain ⟨⟨h1, h2⟩, h3, h4⟩ := hb
      unfold beforeR refBR askedR
      rw [if_pos h, if_pos ha, if_pos rfl, if_pos h, if_pos ⟨⟨h1, h2⟩, h3, h4⟩, bef_beh hok (by omega) (by omega)]
      rw [show ((j.toNat : Nat) : Int) = j by omega]
    · have ha : ¬ [i, j].all (insB n) = true := fun hh => hb (by simpa [insB] using hh)
      unfold beforeR refBR askedR
      rw [if_pos h, if_neg ha, if_neg (by simp), if_pos h, if_neg hb]
  · unfold beforeR refBR askedR
    rw [if_neg h, if_neg h, if_neg h]
end Go.Proofs.Ytakmcpadkanggaa
namespace Go.Proofs.Ytakmcpadkanggaa
open Go.RowKit Go.Maps Go.Deep
section
variable {ops : Array Oper} {rest : List Oper} {o : Oper} {a : Act} {w W : World} {Q : Exit → Act → World → Prop} {S : List Nat} {L : List Ent} {T e size bytes n base gl : Nat} {z v : Value} {xs : List Value} {cs : Array Value} {x0 : Operand}
/-- Some elements more. -/
theorem gr_appM (m : Nat) (s y : Operand) (hT : RowT T e size bytes z) (O : Own w W S ((gl, e, cs) :: L)) (M : W.ownsRow base e size v n xs) (hcs : cs.size = m * size) (h1 : ∀ u ∈ cs.toList, u.oneCell' = true) (hgd : o.guard = none)
    (ho : o.op = .call { callee := .builtin .append, args := #[s, y], argTypes := #[T, T] }) (hs : a.eval s = v) (hy : a.eval y = .slice (some ⟨gl, 0, none⟩) m m) (hb : w.heap.size ≤ base) (hbW : base ≤ W.heap.size) (hL : ∀ q ∈ L, v.ownBlock ≠ some q.1)
    (hn : n ≤ 5000000) (hm : 0 < m ∧ m ≤ 10) (hby : bytes ≤ 1000)
    (h : ∀ v' u, Own w u S L → u.ownsRow base e size v' (n + m) (xs ++ cs.toList) → Keeps W u v.ownBlock.toList → (v'.ownBlock = v.ownBlock ∨ v'.ownBlock = some W.heap.size) → wpList Try.prog ops Q rest (a.put o.dst v') u) : wpList Try.prog ops Q (o :: rest) a W := by
  obtain ⟨ht, ⟨i, hi, hz, hsz, hbt⟩, hzs, hpos⟩ := hT
  have hB := O.get 0 rfl
  have hl : cs.toList.length = m * size := by rw [← hcs]; simp
  have hnews : ∀ j u, cs.toList[j]? = some u → W.cell? ((⟨gl, 0, none⟩ : Addr).add j) = some u := gr_news hB
  have hbytes : (n + m) * bytes ≤ 140737488355328 := Nat.le_trans (Nat.mul_le_mul (show n + m ≤ 5000010 by omega) hby) (by decide)
  obtain ⟨v', u, hr, h2, h3, _⟩ := run_append_own (P := Try.prog) W base T o.type e i z size bytes ht hi hz hsz hbt hzs hpos v n _ M ⟨gl, 0, none⟩ m m cs.toList hl hnews h1 (by simp only [maxLen]; omega) hbytes hbW
  have hf := append_fresh (w := W) (P := Try.prog) base T o.type e i z size bytes ht hi hz hsz hbt v n _ M ⟨gl, 0, none⟩ m m cs.toList hl hnews h1 (by simp only [maxLen]; omega) hbytes (by omega) hr
  refine wpList_plain hgd fun K hK => ?_
  unfold Oper.wp execOp
  simp only [ho, resolve, invoke, builtin, Sem.run_bind, Sem.run_pure, Result.andThen_ok, List.map_toArray, List.map_cons, List.map_nil, hs, hy, hr]
  have hk := grown_keepsV h3
  refine hK _ _ (h v' u ((O.drop_ 1).wrote hk (fun b hb' hlt => ?_) (fun q hq hm => hL q hq (by simpa using hm))) h2 hk hf)
  have := (gr_own M (g := b) (by simpa using hb')).1
  omega
end
theorem rowT31 : RowT 31 37 5 40 (.agg #[Value.int .i64 0, .int .i64 0, .int .i64 0, .int .i64 0, .bool false]) := by
  have h : (Try.prog.info? 37).map (fun i => (i.zero, i.size, i.bytes)) = some (some (.agg #[Value.int .i64 0, .int .i64 0, .int .i64 0, .int .i64 0, .bool false]), 5, 40) := by kernel_rfl
  obtain ⟨i, hi, he⟩ := Option.map_eq_some_iff.1 h
  simp only [Prod.mk.injEq] at he
  exact ⟨Try.underlying31, ⟨i, hi, he.1, he.2.1, he.2.2⟩, rfl, by decide⟩
def aliveE : Nat → Ev := fun _ => ⟨0, 16, 0, 0, false⟩
theorem alive_before : beforeR aliveS aliveE 2 0 1 = (true, 0) := by
  have h : (thr aliveS aliveE 2).2.2 = 0 := by decide +kernel
  obtain ⟨_, _, hok⟩ := thr_zero h
  rw [before_eq]
  unfold refBR
  rw [if_pos h, if_pos (by decide)]
  rw [show behT aliveE (rmS aliveS) (Int.toNat 0) 2 1 = true from (behT_iff hok 1 (by omega)).2 (own_behind hok 1 (by omega) 0 (by omega) rfl)]
theorem alive_evs {W : World} {base k1 : Nat} {v : Value} {A1 : Option Addr} (M : W.ownsRow base 37 5 v 2 [Value.int .i64 0, .int .i64 16, .int .i64 0, .int .i64 0, .bool false, .int .i64 0, .int .i64 16, .int .i64 0, .int .i64 0, .bool false]) (hv : v = .slice A1 2 k1) (hnz : A1 = none → 2 = 0 ∧ k1 = 0) : EvsAt W A1 2 aliveE := fun _ => by
  have hA : A1 ≠ none := fun h => absurd (hnz h).1 (by decide)
  obtain ⟨ad, rfl⟩ : ∃ ad, A1 = some ad := Option.ne_none_iff_exists'.1 hA
  refine ⟨ad, rfl, (gr_cell M hv (j := 0) (x := .int .i64 0) rfl).1, fun i j hi hj => ?_⟩
  have hi' : i = 0 ∨ i = 1 := by omega
  have hj' : j = 0 ∨ j = 1 ∨ j = 2 ∨ j = 3 ∨ j = 4 := by omega
  rcases hi' with rfl | rfl <;> rcases hj' with rfl | rfl | rfl | rfl | rfl <;> exact (gr_cell M hv rfl).2
theorem alive_any {w : World} : Calls Try.prog 43 #[] w fun e u => e = .returned (.bool true) ∧ Keeps w u [] := by
  have O := Own.start w []
  go_enter Try.func43, Try.ntmps43
  go_wp2_with (first
    | (refine wpList_const 5 (.agg #[Value.int .i64 0, .int .i64 16, .int .i64 0, .int .i64 0, .bool false]) rfl rfl (fun _ => by kernel_rfl) ?_; simp only [Act.put, List.setIfInBounds_toArray, List.set_cons_zero, List.set_cons_succ])
    | (refine wpList_const 6 (.agg #[Value.int .i64 0, .int .i64 16, .int .i64 0, .int .i64 0, .bool false]) rfl rfl (fun _ => by kernel_rfl) ?_; simp only [Act.put, List.setIfInBounds_toArray, List.set_cons_zero, List.set_cons_succ])
    | (refine own_lit 7 31 37 2 5 (.agg #[Value.int .i64 0, .int .i64 0, .int .i64 0, .int .i64 0, .bool false]) _ (#[Value.int .i64 0, .int .i64 16, .int .i64 0, .int .i64 0, .bool false, .int .i64 0, .int .i64 16, .int .i64 0, .int .i64 0, .bool false]) O rfl rfl rfl Try.underlying31 (by kernel_rfl) (by decide) (by decide) (by kernel_rfl) ?_; clear O; intro W gl O; simp only [Act.put, List.setIfInBounds_toArray, List.set_cons_zero, List.set_cons_succ])
    | (at_builtin; (refine gr_appM (z := .agg #[Value.int .i64 0, .int .i64 0, .int .i64 0, .int .i64 0, .bool false]) 2 (.tmp 4) (.tmp 7) rowT31 O (gr_nil w.heap.size 37 5 W) rfl (by simp [Value.oneCell']) rfl rfl rfl rfl (Nat.le_refl _) O.keep.size (fun q _ => by simp [Value.ownBlock]) (by decide) (by decide) (by decide) ?_; clear O; intro v1 W O M K _; clear K; obtain ⟨A1, k1, hv1, hnz, hc1, hc2⟩ := gr_shape M; subst hv1; simp only [Act.put, List.setIfInBounds_toArray, List.set_cons_zero, List.set_cons_succ]))
    | (go_at_call 78; refine small14_any.mono ?_; rintro e W ⟨⟨A, c, rfl, HS⟩, K⟩; replace O := O.keeps K; replace M := gr_keeps M K (by simp); clear K)
    | (go_at_call 44; (refine (tbefore_any HS (alive_evs M rfl hnz) hc1 (fun _ _ => rfl) 0 1).mono ?_; rintro e W ⟨rfl, K⟩; replace O := O.keeps K; clear K; rw [alive_before]))
    | go_big_skip)
  go_returns
  exact ⟨rfl, O.keep⟩
end Go.Proofs.Ytakmcpadkanggaa
namespace Go.Proofs.Ytakmcpadkanggaa
open Go.RowKit Go.Maps Go.Deep
section
variable {w : World} {S : Sys} {A : Option Addr} {c : Nat} {R : Option Addr} {d : Nat} {picks : List Int} {pv : Value}
theorem thr_nil_bad {S : Sys} {E : Nat → Ev} {n : Nat} (hv : validB S = false) : thr S E n = (0, 0, 130) := by unfold thr; rw [hv]; rfl
set_option maxRecDepth 100000 in
set_option maxHeartbeats 1000000 in
theorem played_bad (hS : SysIn w S A c R d) (hv : validB S = false) (i j cut : Int) : Calls Try.prog 18 #[.agg (sysV S A c R d), pv, .agg #[.int .i64 i, .int .i64 j, .int .i64 cut]] w fun e w' => e = .returned (.bool true) ∧ Keeps w w' [] := by
  have O := Own.start w []
  have HP := Lib.hid (fun u (k : Keeps w u []) => play_bad (pv := pv) (hS.kept k) hv)
  have HT := Lib.hid (fun u (k : Keeps w u []) => (by have := tvalid_any (B := none) (n := 0) (cb := 0) (E := fun _ => default) (hS.kept k) (fun h => by omega) (fun i hi => by omega); rwa [thr_nil_bad hv] at this : Calls Try.prog 28 #[.agg (sysV S A c R d), .slice none 0 0] u fun e w' => e = .returned (.tuple #[.int .i64 0, .int .i64 130]) ∧ Keeps u w' []))
  clear hS hv
  go_enter Try.func18, Try.ntmps18
  go_wp2_with (first
    | go_big_skip
    | (refine own_box 3 (sysV S A c R d) O rfl rfl rfl rfl ?_; clear O; intro W a3 O; simp only [Act.put, List.setIfInBounds_toArray, List.set_cons_zero, List.set_cons_succ])
    | (refine own_box 5 (#[.int .i64 i, .int .i64 j, .int .i64 cut]) O rfl rfl rfl rfl ?_; clear O; intro W a5 O; simp only [Act.put, List.setIfInBounds_toArray, List.set_cons_zero, List.set_cons_succ]; have c5 := (O.get 0 rfl).cell))
  go_quiet (fail)
  clear c5
  generalize hW : World.drewN W _ = W2
  replace O : Own w W2 [] [(a5, 54, #[.int .i64 i, .int .i64 j, .int .i64 cut]), (a3, 27, sysV S A c R d)] := by rw [← hW]; exact O.drewN _
  clear hW
  go_wp2_with (first
    | go_big_skip
    | (go_at_call 43; refine alive_any.mono ?_; rintro e W ⟨rfl, K⟩; replace O := O.keeps K; clear K)
    | (refine own_load 31 1 O rfl rfl rfl rfl rfl Try.underlying27 rfl (by kernel_rfl) ?_; simp only [Act.put, List.setIfInBounds_toArray, List.set_cons_zero, List.set_cons_succ])
    | (go_at_call 25; refine (HP.out _ O.keep).mono ?_; rintro e W ⟨rfl, K⟩; replace O := O.keeps K; clear K)
    | (refine own_alloc 10 (#[Value.int .i64 0, .int .i64 0, .slice none 0 0, .int .i64 0, .slice none 0 0]) O rfl rfl rfl (fun _ => by kernel_rfl) ?_; clear O; intro W a10 O; simp only [Act.put, List.setIfInBounds_toArray, List.set_cons_zero, List.set_cons_succ])
    | (refine own_store_row 0 (.tmp 10) (.tmp 34) (cs' := #[Value.int .i64 0, .int .i64 0, .slice none 0 0, .int .i64 0, .slice none 0 0]) O rfl rfl rfl rfl rfl rfl (by kernel_rfl) (by rfl) (by decide) ?_; clear O; intro W O; simp only [List.set_cons_zero] at O)
    | (refine own_load 39 2 O rfl rfl rfl rfl rfl Try.underlying27 rfl (by kernel_rfl) ?_; simp only [Act.put, List.setIfInBounds_toArray, List.set_cons_zero, List.set_cons_succ])
    | (go_at_call 28; refine (HT.out _ O.keep).mono ?_; rintro e W ⟨rfl, K⟩; replace O := O.keeps K; clear K))
  go_ret
  exact ⟨rfl, O.keep⟩
set_option maxRecDepth 100000 in
set_option maxHeartbeats 2000000 in
theorem played_a (hS : SysIn w S A c R d) (hv : validB S = true) (hq : QWf S) (hp : IntL w pv picks) (i j cut : Int) (h1 : cut < 0) : Calls Try.prog 18 #[.agg (sysV S A c R d), pv, .agg #[.int .i64 i, .int .i64 j, .int .i64 cut]] w fun e w' => e = .returned (.bool true) ∧ Keeps w w' [] := by
  have O := Own.start w []
  have HP := Lib.hid (fun u (k : Keeps w u []) => show Calls Try.prog 25 #[.agg (sysV S A c R d), pv] u fun e W => ∃ evs cells, e = .returned (.tuple #[.agg (runC (playP S picks).fin (playP S picks).fault evs (playP S picks).P.n cells), .int .i64 0]) ∧ RunAt u W S (playP S picks) evs cells from play_good (hS.kept k) hv (hp.kept k))
  have HWF := Lib.hid (play_awf hv hq picks)
  have HTH := Lib.hid (play_thr hv picks)
  have HRN := Lib.hid (play_run hv picks)
  obtain ⟨X, hX⟩ : ∃ X, X = playP S picks := ⟨_, rfl⟩
  rw [← hX] at HP HWF HTH HRN
  clear hX
  have HS := Lib.hid hS
  have HV := Lib.hid hv
  clear hS hq hp hv
  obtain ⟨n, hn⟩ : ∃ n, n = X.P.ev.length := ⟨_, rfl⟩
  rw [← hn] at HWF HTH HRN
  have hn4 : n ≤ 40000 := HRN.out.2.1
  have HNN := Lib.hid hn
  clear hn
  have g0 : ((X.P.n : Int) != (X.P.n : Int)) = false := by simp
  have y0 : decide (cut < 0) = true := decide_eq_true (by omega)
  have yy0 : cut < 0 := by omega
  clear h1
  go_enter Try.func18, Try.ntmps18
  go_wp2_with (first
    | go_big_skip
    | (refine own_box 3 (sysV S A c R d) O rfl rfl rfl rfl ?_; clear O; intro W a3 O; simp only [Act.put, List.setIfInBounds_toArray, List.set_cons_zero, List.set_cons_succ])
    | (refine own_box 5 (#[.int .i64 i, .int .i64 j, .int .i64 cut]) O rfl rfl rfl rfl ?_; clear O; intro W a5 O; simp only [Act.put, List.setIfInBounds_toArray, List.set_cons_zero, List.set_cons_succ]; have c5 := (O.get 0 rfl).cell))
  go_quiet (fail)
  clear c5
  generalize hW : World.drewN W _ = W2
  replace O : Own w W2 [] [(a5, 54, #[.int .i64 i, .int .i64 j, .int .i64 cut]), (a3, 27, sysV S A c R d)] := by rw [← hW]; exact O.drewN _
  clear hW
  go_wp2_with (first
    | go_big_skip
    | (go_at_call 43; refine alive_any.mono ?_; rintro e W ⟨rfl, K⟩; replace O := O.keeps K; clear K)
    | (refine own_load 31 1 O rfl rfl rfl rfl rfl Try.underlying27 rfl (by kernel_rfl) ?_; simp only [Act.put, List.setIfInBounds_toArray, List.set_cons_zero, List.set_cons_succ])
    | (go_at_call 25; refine (HP.out _ O.keep).mono ?_; rintro e W ⟨evs, cells, rfl, HR⟩; replace O := O.keeps HR.keep; obtain ⟨Ae, ce, e1, hE, hce, hcm⟩ := HR.evs; obtain ⟨bc, mc, e2, _, _, _⟩ := HR.cell; clear HR; rw [← HNN.out] at e1 hE hce; subst e1; subst e2; have HE := Lib.hid hE; have HCE := Lib.hid hce; clear hE hce hcm)
    | (refine own_allocK 10 (#[Value.int .i64 0, .int .i64 0, .slice none 0 0, .int .i64 0, .slice none 0 0]) O rfl rfl rfl (fun _ => by kernel_rfl) ?_; clear O; intro W10 a10 O K10 hb10; have HK10 := Lib.hid (And.intro K10 hb10); clear K10 hb10; simp only [Act.put, List.setIfInBounds_toArray, List.set_cons_zero, List.set_cons_succ])
    | (refine own_store_rowK 0 (.tmp 10) (.tmp 34) (cs' := runC X.fin X.fault (.slice Ae n ce) X.P.n (.slice (some ⟨bc, 0, none⟩) mc mc)) O rfl rfl rfl rfl rfl rfl (by kernel_rfl) (by rfl) (runC_cell _ _ _ _ _ rfl rfl) ?_; clear O; intro W O K; replace HE := Lib.hid (HE.out.kept (HK10.out.1.trans K (fun b hb hlt => by rw [List.mem_singleton.1 hb] at hlt; have := HK10.out.2; omega))); clear K HK10; simp only [List.set_cons_zero] at O; have c2 : W.cell? ⟨a10, 2, none⟩ = some (.slice Ae n ce) := (O.get 0 rfl).cell 2; have c3 : W.cell? ⟨a10, 3, none⟩ = some (.int .i64 X.P.n) := (O.get 0 rfl).cell 3)
    | (refine own_load 49 2 O rfl rfl rfl rfl rfl Try.underlying27 rfl (by kernel_rfl) ?_; simp only [Act.put, List.setIfInBounds_toArray, List.set_cons_zero, List.set_cons_succ])
    | (refine own_load 57 2 O rfl rfl rfl rfl rfl Try.underlying27 rfl (by kernel_rfl) ?_; simp only [Act.put, List.setIfInBounds_toArray, List.set_cons_zero, List.set_cons_succ])
    | (refine own_load 97 2 O rfl rfl rfl rfl rfl Try.underlying27 rfl (by kernel_rfl) ?_; simp only [Act.put, List.setIfInBounds_toArray, List.set_cons_zero, List.set_cons_succ])
    | (go_at_call 28; have hz := tvalid_any (cb := ce) (HS.out.kept O.keep) HE.out HWF.out; rw [HTH.out] at hz; refine hz.mono ?_; clear hz c2 c3; rintro e W ⟨rfl, K⟩; replace O := O.keeps K; replace HE := Lib.hid (HE.out.kept K); clear K; have c3 : W.cell? ⟨a10, 3, none⟩ = some (.int .i64 X.P.n) := (O.get 0 rfl).cell 3)
    | (go_at_call 30; have hz := trunners_any (cb := ce) (HS.out.kept O.keep) HE.out HWF.out; rw [HTH.out] at hz; refine hz.mono ?_; clear hz c3; rintro e W ⟨rfl, K⟩; replace O := O.keeps K; replace HE := Lib.hid (HE.out.kept K); clear K; have c3 : W.cell? ⟨a10, 3, none⟩ = some (.int .i64 X.P.n) := (O.get 0 rfl).cell 3))
  go_ret
  exact ⟨rfl, O.keep⟩
set_option maxRecDepth 100000 in
set_option maxHeartbeats 2000000 in
theorem played_b (hS : SysIn w S A c R d) (hv : validB S = true) (hq : QWf S) (hp : IntL w pv picks) (i j cut : Int) (h1 : ¬ cut < 0) (h2 : ((playP S picks).P.ev.length : Int) < cut) : Calls Try.prog 18 #[.agg (sysV S A c R d), pv, .agg #[.int .i64 i, .int .i64 j, .int .i64 cut]] w fun e w' => e = .returned (.bool true) ∧ Keeps w w' [] := by
  have O := Own.start w []
  have HP := Lib.hid (fun u (k : Keeps w u []) => show Calls Try.prog 25 #[.agg (sysV S A c R d), pv] u fun e W => ∃ evs cells, e = .returned (.tuple #[.agg (runC (playP S picks).fin (playP S picks).fault evs (playP S picks).P.n cells), .int .i64 0]) ∧ RunAt u W S (playP S picks) evs cells from play_good (hS.kept k) hv (hp.kept k))
  have HWF := Lib.hid (play_awf hv hq picks)
  have HTH := Lib.hid (play_thr hv picks)
  have HRN := Lib.hid (play_run hv picks)
  obtain ⟨X, hX⟩ : ∃ X, X = playP S picks := ⟨_, rfl⟩
  rw [← hX] at HP HWF HTH HRN h2
  clear hX
  have HS := Lib.hid hS
  have HV := Lib.hid hv
  clear hS hq hp hv
  obtain ⟨n, hn⟩ : ∃ n, n = X.P.ev.length := ⟨_, rfl⟩
  rw [← hn] at HWF HTH HRN h2
  have hn4 : n ≤ 40000 := HRN.out.2.1
  have HNN := Lib.hid hn
  clear hn
  have g0 : ((X.P.n : Int) != (X.P.n : Int)) = false := by simp
  have y0 : decide ((n : Int) < cut) = true := decide_eq_true (by omega)
  have yy0 : (n : Int) < cut := by omega
  have z0 : decide (cut < 0) = false := decide_eq_false (by omega)
  have zz0 : ¬ cut < 0 := by omega
  clear h1 h2
  go_enter Try.func18, Try.ntmps18
  go_wp2_with (first
    | go_big_skip
    | (refine own_box 3 (sysV S A c R d) O rfl rfl rfl rfl ?_; clear O; intro W a3 O; simp only [Act.put, List.setIfInBounds_toArray, List.set_cons_zero, List.set_cons_succ])
    | (refine own_box 5 (#[.int .i64 i, .int .i64 j, .int .i64 cut]) O rfl rfl rfl rfl ?_; clear O; intro W a5 O; simp only [Act.put, List.setIfInBounds_toArray, List.set_cons_zero, List.set_cons_succ]; have c5 := (O.get 0 rfl).cell))
  go_quiet (fail)
  clear c5
  generalize hW : World.drewN W _ = W2
  replace O : Own w W2 [] [(a5, 54, #[.int .i64 i, .int .i64 j, .int .i64 cut]), (a3, 27, sysV S A c R d)] := by rw [← hW]; exact O.drewN _
  clear hW
  go_wp2_with (first
    | go_big_skip
    | (go_at_call 43; refine alive_any.mono ?_; rintro e W ⟨rfl, K⟩; replace O := O.keeps K; clear K)
    | (refine own_load 31 1 O rfl rfl rfl rfl rfl Try.underlying27 rfl (by kernel_rfl) ?_; simp only [Act.put, List.setIfInBounds_toArray, List.set_cons_zero, List.set_cons_succ])
    | (go_at_call 25; refine (HP.out _ O.keep).mono ?_; rintro e W ⟨evs, cells, rfl, HR⟩; replace O := O.keeps HR.keep; obtain ⟨Ae, ce, e1, hE, hce, hcm⟩ := HR.evs; obtain ⟨bc, mc, e2, _, _, _⟩ := HR.cell; clear HR; rw [← HNN.out] at e1 hE hce; subst e1; subst e2; have HE := Lib.hid hE; have HCE := Lib.hid hce; clear hE hce hcm)
    | (refine own_allocK 10 (#[Value.int .i64 0, .int .i64 0, .slice none 0 0, .int .i64 0, .slice none 0 0]) O rfl rfl rfl (fun _ => by kernel_rfl) ?_; clear O; intro W10 a10 O K10 hb10; have HK10 := Lib.hid (And.intro K10 hb10); clear K10 hb10; simp only [Act.put, List.setIfInBounds_toArray, List.set_cons_zero, List.set_cons_succ])
    | (refine own_store_rowK 0 (.tmp 10) (.tmp 34) (cs' := runC X.fin X.fault (.slice Ae n ce) X.P.n (.slice (some ⟨bc, 0, none⟩) mc mc)) O rfl rfl rfl rfl rfl rfl (by kernel_rfl) (by rfl) (runC_cell _ _ _ _ _ rfl rfl) ?_; clear O; intro W O K; replace HE := Lib.hid (HE.out.kept (HK10.out.1.trans K (fun b hb hlt => by rw [List.mem_singleton.1 hb] at hlt; have := HK10.out.2; omega))); clear K HK10; simp only [List.set_cons_zero] at O; have c2 : W.cell? ⟨a10, 2, none⟩ = some (.slice Ae n ce) := (O.get 0 rfl).cell 2; have c3 : W.cell? ⟨a10, 3, none⟩ = some (.int .i64 X.P.n) := (O.get 0 rfl).cell 3)
    | (refine own_load 49 2 O rfl rfl rfl rfl rfl Try.underlying27 rfl (by kernel_rfl) ?_; simp only [Act.put, List.setIfInBounds_toArray, List.set_cons_zero, List.set_cons_succ])
    | (refine own_load 57 2 O rfl rfl rfl rfl rfl Try.underlying27 rfl (by kernel_rfl) ?_; simp only [Act.put, List.setIfInBounds_toArray, List.set_cons_zero, List.set_cons_succ])
    | (refine own_load 97 2 O rfl rfl rfl rfl rfl Try.underlying27 rfl (by kernel_rfl) ?_; simp only [Act.put, List.setIfInBounds_toArray, List.set_cons_zero, List.set_cons_succ])
    | (go_at_call 28; have hz := tvalid_any (cb := ce) (HS.out.kept O.keep) HE.out HWF.out; rw [HTH.out] at hz; refine hz.mono ?_; clear hz c2 c3; rintro e W ⟨rfl, K⟩; replace O := O.keeps K; replace HE := Lib.hid (HE.out.kept K); clear K; have c3 : W.cell? ⟨a10, 3, none⟩ = some (.int .i64 X.P.n) := (O.get 0 rfl).cell 3)
    | (go_at_call 30; have hz := trunners_any (cb := ce) (HS.out.kept O.keep) HE.out HWF.out; rw [HTH.out] at hz; refine hz.mono ?_; clear hz c3; rintro e W ⟨rfl, K⟩; replace O := O.keeps K; replace HE := Lib.hid (HE.out.kept K); clear K; have c3 : W.cell? ⟨a10, 3, none⟩ = some (.int .i64 X.P.n) := (O.get 0 rfl).cell 3))
  go_ret
  exact ⟨rfl, O.keep⟩
set_option maxRecDepth 100000 in
set_option maxHeartbeats 2000000 in
theorem played_c (hS : SysIn w S A c R d) (hv : validB S = true) (hq : QWf S) (hp : IntL w pv picks) (i j cut : Int) (h1 : ¬ cut < 0) (h2 : ¬ ((playP S picks).P.ev.length : Int) < cut) (h3 : i < 0) : Calls Try.prog 18 #[.agg (sysV S A c R d), pv, .agg #[.int .i64 i, .int .i64 j, .int .i64 cut]] w fun e w' => e = .returned (.bool true) ∧ Keeps w w' [] := by
  have O := Own.start w []
  have HP := Lib.hid (fun u (k : Keeps w u []) => show Calls Try.prog 25 #[.agg (sysV S A c R d), pv] u fun e W => ∃ evs cells, e = .returned (.tuple #[.agg (runC (playP S picks).fin (playP S picks).fault evs (playP S picks).P.n cells), .int .i64 0]) ∧ RunAt u W S (playP S picks) evs cells from play_good (hS.kept k) hv (hp.kept k))
  have HWF := Lib.hid (play_awf hv hq picks)
  have HTH := Lib.hid (play_thr hv picks)
  have HRN := Lib.hid (play_run hv picks)
  obtain ⟨X, hX⟩ : ∃ X, X = playP S picks := ⟨_, rfl⟩
  rw [← hX] at HP HWF HTH HRN h2
  clear hX
  have HS := Lib.hid hS
  have HV := Lib.hid hv
  clear hS hq hp hv
  obtain ⟨n, hn⟩ : ∃ n, n = X.P.ev.length := ⟨_, rfl⟩
  rw [← hn] at HWF HTH HRN h2
  have hn4 : n ≤ 40000 := HRN.out.2.1
  have HNN := Lib.hid hn
  clear hn
  have g0 : ((X.P.n : Int) != (X.P.n : Int)) = false := by simp
  have y0 : decide (i < 0) = true := decide_eq_true (by omega)
  have yy0 : i < 0 := by omega
  have z0 : decide (cut < 0) = false := decide_eq_false (by omega)
  have zz0 : ¬ cut < 0 := by omega
  have z1 : decide ((n : Int) < cut) = false := decide_eq_false (by omega)
  have zz1 : ¬ (n : Int) < cut := by omega
  clear h1 h2 h3
  go_enter Try.func18, Try.ntmps18
  go_wp2_with (first
    | go_big_skip
    | (refine own_box 3 (sysV S A c R d) O rfl rfl rfl rfl ?_; clear O; intro W a3 O; simp only [Act.put, List.setIfInBounds_toArray, List.set_cons_zero, List.set_cons_succ])
    | (refine own_box 5 (#[.int .i64 i, .int .i64 j, .int .i64 cut]) O rfl rfl rfl rfl ?_; clear O; intro W a5 O; simp only [Act.put, List.setIfInBounds_toArray, List.set_cons_zero, List.set_cons_succ]; have c5 := (O.get 0 rfl).cell))
  go_quiet (fail)
  clear c5
  generalize hW : World.drewN W _ = W2
  replace O : Own w W2 [] [(a5, 54, #[.int .i64 i, .int .i64 j, .int .i64 cut]), (a3, 27, sysV S A c R d)] := by rw [← hW]; exact O.drewN _
  clear hW
  go_wp2_with (first
    | go_big_skip
    | (go_at_call 43; refine alive_any.mono ?_; rintro e W ⟨rfl, K⟩; replace O := O.keeps K; clear K)
    | (refine own_load 31 1 O rfl rfl rfl rfl rfl Try.underlying27 rfl (by kernel_rfl) ?_; simp only [Act.put, List.setIfInBounds_toArray, List.set_cons_zero, List.set_cons_succ])
    | (go_at_call 25; refine (HP.out _ O.keep).mono ?_; rintro e W ⟨evs, cells, rfl, HR⟩; replace O := O.keeps HR.keep; obtain ⟨Ae, ce, e1, hE, hce, hcm⟩ := HR.evs; obtain ⟨bc, mc, e2, _, _, _⟩ := HR.cell; clear HR; rw [← HNN.out] at e1 hE hce; subst e1; subst e2; have HE := Lib.hid hE; have HCE := Lib.hid hce; clear hE hce hcm)
    | (refine own_allocK 10 (#[Value.int .i64 0, .int .i64 0, .slice none 0 0, .int .i64 0, .slice none 0 0]) O rfl rfl rfl (fun _ => by kernel_rfl) ?_; clear O; intro W10 a10 O K10 hb10; have HK10 := Lib.hid (And.intro K10 hb10); clear K10 hb10; simp only [Act.put, List.setIfInBounds_toArray, List.set_cons_zero, List.set_cons_succ])
    | (refine own_store_rowK 0 (.tmp 10) (.tmp 34) (cs' := runC X.fin X.fault (.slice Ae n ce) X.P.n (.slice (some ⟨bc, 0, none⟩) mc mc)) O rfl rfl rfl rfl rfl rfl (by kernel_rfl) (by rfl) (runC_cell _ _ _ _ _ rfl rfl) ?_; clear O; intro W O K; replace HE := Lib.hid (HE.out.kept (HK10.out.1.trans K (fun b hb hlt => by rw [List.mem_singleton.1 hb] at hlt; have := HK10.out.2; omega))); clear K HK10; simp only [List.set_cons_zero] at O; have c2 : W.cell? ⟨a10, 2, none⟩ = some (.slice Ae n ce) := (O.get 0 rfl).cell 2; have c3 : W.cell? ⟨a10, 3, none⟩ = some (.int .i64 X.P.n) := (O.get 0 rfl).cell 3)
    | (refine own_load 49 2 O rfl rfl rfl rfl rfl Try.underlying27 rfl (by kernel_rfl) ?_; simp only [Act.put, List.setIfInBounds_toArray, List.set_cons_zero, List.set_cons_succ])
    | (refine own_load 57 2 O rfl rfl rfl rfl rfl Try.underlying27 rfl (by kernel_rfl) ?_; simp only [Act.put, List.setIfInBounds_toArray, List.set_cons_zero, List.set_cons_succ])
    | (refine own_load 97 2 O rfl rfl rfl rfl rfl Try.underlying27 rfl (by kernel_rfl) ?_; simp only [Act.put, List.setIfInBounds_toArray, List.set_cons_zero, List.set_cons_succ])
    | (go_at_call 28; have hz := tvalid_any (cb := ce) (HS.out.kept O.keep) HE.out HWF.out; rw [HTH.out] at hz; refine hz.mono ?_; clear hz c2 c3; rintro e W ⟨rfl, K⟩; replace O := O.keeps K; replace HE := Lib.hid (HE.out.kept K); clear K; have c3 : W.cell? ⟨a10, 3, none⟩ = some (.int .i64 X.P.n) := (O.get 0 rfl).cell 3)
    | (go_at_call 30; have hz := trunners_any (cb := ce) (HS.out.kept O.keep) HE.out HWF.out; rw [HTH.out] at hz; refine hz.mono ?_; clear hz c3; rintro e W ⟨rfl, K⟩; replace O := O.keeps K; replace HE := Lib.hid (HE.out.kept K); clear K; have c3 : W.cell? ⟨a10, 3, none⟩ = some (.int .i64 X.P.n) := (O.get 0 rfl).cell 3))
  go_ret
  exact ⟨rfl, O.keep⟩
set_option maxRecDepth 100000 in
set_option maxHeartbeats 2000000 in
theorem played_d (hS : SysIn w S A c R d) (hv : validB S = true) (hq : QWf S) (hp : IntL w pv picks) (i j cut : Int) (h1 : ¬ cut < 0) (h2 : ¬ ((playP S picks).P.ev.length : Int) < cut) (h3 : ¬ i < 0) (h4 : j < 0) : Calls Try.prog 18 #[.agg (sysV S A c R d), pv, .agg #[.int .i64 i, .int .i64 j, .int .i64 cut]] w fun e w' => e = .returned (.bool true) ∧ Keeps w w' [] := by
  have O := Own.start w []
  have HP := Lib.hid (fun u (k : Keeps w u []) => show Calls Try.prog 25 #[.agg (sysV S A c R d), pv] u fun e W => ∃ evs cells, e = .returned (.tuple #[.agg (runC (playP S picks).fin (playP S picks).fault evs (playP S picks).P.n cells), .int .i64 0]) ∧ RunAt u W S (playP S picks) evs cells from play_good (hS.kept k) hv (hp.kept k))
  have HWF := Lib.hid (play_awf hv hq picks)
  have HTH := Lib.hid (play_thr hv picks)
  have HRN := Lib.hid (play_run hv picks)
  obtain ⟨X, hX⟩ : ∃ X, X = playP S picks := ⟨_, rfl⟩
  rw [← hX] at HP HWF HTH HRN h2
  clear hX
  have HS := Lib.hid hS
  have HV := Lib.hid hv
  clear hS hq hp hv
  obtain ⟨n, hn⟩ : ∃ n, n = X.P.ev.length := ⟨_, rfl⟩
  rw [← hn] at HWF HTH HRN h2
  have hn4 : n ≤ 40000 := HRN.out.2.1
  have HNN := Lib.hid hn
  clear hn
  have g0 : ((X.P.n : Int) != (X.P.n : Int)) = false := by simp
  have y0 : decide (j < 0) = true := decide_eq_true (by omega)
  have yy0 : j < 0 := by omega
  have z0 : decide (cut < 0) = false := decide_eq_false (by omega)
  have zz0 : ¬ cut < 0 := by omega
  have z1 : decide ((n : Int) < cut) = false := decide_eq_false (by omega)
  have zz1 : ¬ (n : Int) < cut := by omega
  have z2 : decide (i < 0) = false := decide_eq_false (by omega)
  have zz2 : ¬ i < 0 := by omega
  clear h1 h2 h3 h4
  go_enter Try.func18, Try.ntmps18
  go_wp2_with (first
    | go_big_skip
    | (refine own_box 3 (sysV S A c R d) O rfl rfl rfl rfl ?_; clear O; intro W a3 O; simp only [Act.put, List.setIfInBounds_toArray, List.set_cons_zero, List.set_cons_succ])
    | (refine own_box 5 (#[.int .i64 i, .int .i64 j, .int .i64 cut]) O rfl rfl rfl rfl ?_; clear O; intro W a5 O; simp only [Act.put, List.setIfInBounds_toArray, List.set_cons_zero, List.set_cons_succ]; have c5 := (O.get 0 rfl).cell))
  go_quiet (fail)
  clear c5
  generalize hW : World.drewN W _ = W2
  replace O : Own w W2 [] [(a5, 54, #[.int .i64 i, .int .i64 j, .int .i64 cut]), (a3, 27, sysV S A c R d)] := by rw [← hW]; exact O.drewN _
  clear hW
  go_wp2_with (first
    | go_big_skip
    | (go_at_call 43; refine alive_any.mono ?_; rintro e W ⟨rfl, K⟩; replace O := O.keeps K; clear K)
    | (refine own_load 31 1 O rfl rfl rfl rfl rfl Try.underlying27 rfl (by kernel_rfl) ?_; simp only [Act.put, List.setIfInBounds_toArray, List.set_cons_zero, List.set_cons_succ])
    | (go_at_call 25; refine (HP.out _ O.keep).mono ?_; rintro e W ⟨evs, cells, rfl, HR⟩; replace O := O.keeps HR.keep; obtain ⟨Ae, ce, e1, hE, hce, hcm⟩ := HR.evs; obtain ⟨bc, mc, e2, _, _, _⟩ := HR.cell; clear HR; rw [← HNN.out] at e1 hE hce; subst e1; subst e2; have HE := Lib.hid hE; have HCE := Lib.hid hce; clear hE hce hcm)
    | (refine own_allocK 10 (#[Value.int .i64 0, .int .i64 0, .slice none 0 0, .int .i64 0, .slice none 0 0]) O rfl rfl rfl (fun _ => by kernel_rfl) ?_; clear O; intro W10 a10 O K10 hb10; have HK10 := Lib.hid (And.intro K10 hb10); clear K10 hb10; simp only [Act.put, List.setIfInBounds_toArray, List.set_cons_zero, List.set_cons_succ])
    | (refine own_store_rowK 0 (.tmp 10) (.tmp 34) (cs' := runC X.fin X.fault (.slice Ae n ce) X.P.n (.slice (some ⟨bc, 0, none⟩) mc mc)) O rfl rfl rfl rfl rfl rfl (by kernel_rfl) (by rfl) (runC_cell _ _ _ _ _ rfl rfl) ?_; clear O; intro W O K; replace HE := Lib.hid (HE.out.kept (HK10.out.1.trans K (fun b hb hlt => by rw [List.mem_singleton.1 hb] at hlt; have := HK10.out.2; omega))); clear K HK10; simp only [List.set_cons_zero] at O; have c2 : W.cell? ⟨a10, 2, none⟩ = some (.slice Ae n ce) := (O.get 0 rfl).cell 2; have c3 : W.cell? ⟨a10, 3, none⟩ = some (.int .i64 X.P.n) := (O.get 0 rfl).cell 3)
    | (refine own_load 49 2 O rfl rfl rfl rfl rfl Try.underlying27 rfl (by kernel_rfl) ?_; simp only [Act.put, List.setIfInBounds_toArray, List.set_cons_zero, List.set_cons_succ])
    | (refine own_load 57 2 O rfl rfl rfl rfl rfl Try.underlying27 rfl (by kernel_rfl) ?_; simp only [Act.put, List.setIfInBounds_toArray, List.set_cons_zero, List.set_cons_succ])
    | (refine own_load 97 2 O rfl rfl rfl rfl rfl Try.underlying27 rfl (by kernel_rfl) ?_; simp only [Act.put, List.setIfInBounds_toArray, List.set_cons_zero, List.set_cons_succ])
    | (go_at_call 28; have hz := tvalid_any (cb := ce) (HS.out.kept O.keep) HE.out HWF.out; rw [HTH.out] at hz; refine hz.mono ?_; clear hz c2 c3; rintro e W ⟨rfl, K⟩; replace O := O.keeps K; replace HE := Lib.hid (HE.out.kept K); clear K; have c3 : W.cell? ⟨a10, 3, none⟩ = some (.int .i64 X.P.n) := (O.get 0 rfl).cell 3)
    | (go_at_call 30; have hz := trunners_any (cb := ce) (HS.out.kept O.keep) HE.out HWF.out; rw [HTH.out] at hz; refine hz.mono ?_; clear hz c3; rintro e W ⟨rfl, K⟩; replace O := O.keeps K; replace HE := Lib.hid (HE.out.kept K); clear K; have c3 : W.cell? ⟨a10, 3, none⟩ = some (.int .i64 X.P.n) := (O.get 0 rfl).cell 3))
  go_ret
  exact ⟨rfl, O.keep⟩
set_option maxRecDepth 100000 in
set_option maxHeartbeats 2000000 in
theorem played_e (hS : SysIn w S A c R d) (hv : validB S = true) (hq : QWf S) (hp : IntL w pv picks) (i j cut : Int) (h1 : ¬ cut < 0) (h2 : ¬ ((playP S picks).P.ev.length : Int) < cut) (h3 : ¬ i < 0) (h4 : ¬ j < 0) (h5 : cut ≤ i) : Calls Try.prog 18 #[.agg (sysV S A c R d), pv, .agg #[.int .i64 i, .int .i64 j, .int .i64 cut]] w fun e w' => e = .returned (.bool true) ∧ Keeps w w' [] := by
  have O := Own.start w []
  have HP := Lib.hid (fun u (k : Keeps w u []) => show Calls Try.prog 25 #[.agg (sysV S A c R d), pv] u fun e W => ∃ evs cells, e = .returned (.tuple #[.agg (runC (playP S picks).fin (playP S picks).fault evs (playP S picks).P.n cells), .int .i64 0]) ∧ RunAt u W S (playP S picks) evs cells from play_good (hS.kept k) hv (hp.kept k))
  have HWF := Lib.hid (play_awf hv hq picks)
  have HTH := Lib.hid (play_thr hv picks)
  have HRN := Lib.hid (play_run hv picks)
  obtain ⟨X, hX⟩ : ∃ X, X = playP S picks := ⟨_, rfl⟩
  rw [← hX] at HP HWF HTH HRN h2
  clear hX
  have HS := Lib.hid hS
  have HV := Lib.hid hv
  clear hS hq hp hv
  obtain ⟨n, hn⟩ : ∃ n, n = X.P.ev.length := ⟨_, rfl⟩
  rw [← hn] at HWF HTH HRN h2
  have hn4 : n ≤ 40000 := HRN.out.2.1
  have HNN := Lib.hid hn
  clear hn
  have g0 : ((X.P.n : Int) != (X.P.n : Int)) = false := by simp
  have y0 : decide (cut ≤ i) = true := decide_eq_true (by omega)
  have yy0 : cut ≤ i := by omega
  have z0 : decide (cut < 0) = false := decide_eq_false (by omega)
  have zz0 : ¬ cut < 0 := by omega
  have z1 : decide ((n : Int) < cut) = false := decide_eq_false (by omega)
  have zz1 : ¬ (n : Int) < cut := by omega
  have z2 : decide (i < 0) = false := decide_eq_false (by omega)
  have zz2 : ¬ i < 0 := by omega
  have z3 : decide (j < 0) = false := decide_eq_false (by omega)
  have zz3 : ¬ j < 0 := by omega
  clear h1 h2 h3 h4 h5
  go_enter Try.func18, Try.ntmps18
  go_wp2_with (first
    | go_big_skip
    | (refine own_box 3 (sysV S A c R d) O rfl rfl rfl rfl ?_; clear O; intro W a3 O; simp only [Act.put, List.setIfInBounds_toArray, List.set_cons_zero, List.set_cons_succ])
    | (refine own_box 5 (#[.int .i64 i, .int .i64 j, .int .i64 cut]) O rfl rfl rfl rfl ?_; clear O; intro W a5 O; simp only [Act.put, List.setIfInBounds_toArray, List.set_cons_zero, List.set_cons_succ]; have c5 := (O.get 0 rfl).cell))
  go_quiet (fail)
  clear c5
  generalize hW : World.drewN W _ = W2
  replace O : Own w W2 [] [(a5, 54, #[.int .i64 i, .int .i64 j, .int .i64 cut]), (a3, 27, sysV S A c R d)] := by rw [← hW]; exact O.drewN _
  clear hW
  go_wp2_with (first
    | go_big_skip
    | (go_at_call 43; refine alive_any.mono ?_; rintro e W ⟨rfl, K⟩; replace O := O.keeps K; clear K)
    | (refine own_load 31 1 O rfl rfl rfl rfl rfl Try.underlying27 rfl (by kernel_rfl) ?_; simp only [Act.put, List.setIfInBounds_toArray, List.set_cons_zero, List.set_cons_succ])
    | (go_at_call 25; refine (HP.out _ O.keep).mono ?_; rintro e W ⟨evs, cells, rfl, HR⟩; replace O := O.keeps HR.keep; obtain ⟨Ae, ce, e1, hE, hce, hcm⟩ := HR.evs; obtain ⟨bc, mc, e2, _, _, _⟩ := HR.cell; clear HR; rw [← HNN.out] at e1 hE hce; subst e1; subst e2; have HE := Lib.hid hE; have HCE := Lib.hid hce; clear hE hce hcm)
    | (refine own_allocK 10 (#[Value.int .i64 0, .int .i64 0, .slice none 0 0, .int .i64 0, .slice none 0 0]) O rfl rfl rfl (fun _ => by kernel_rfl) ?_; clear O; intro W10 a10 O K10 hb10; have HK10 := Lib.hid (And.intro K10 hb10); clear K10 hb10; simp only [Act.put, List.setIfInBounds_toArray, List.set_cons_zero, List.set_cons_succ])
    | (refine own_store_rowK 0 (.tmp 10) (.tmp 34) (cs' := runC X.fin X.fault (.slice Ae n ce) X.P.n (.slice (some ⟨bc, 0, none⟩) mc mc)) O rfl rfl rfl rfl rfl rfl (by kernel_rfl) (by rfl) (runC_cell _ _ _ _ _ rfl rfl) ?_; clear O; intro W O K; replace HE := Lib.hid (HE.out.kept (HK10.out.1.trans K (fun b hb hlt => by rw [List.mem_singleton.1 hb] at hlt; have := HK10.out.2; omega))); clear K HK10; simp only [List.set_cons_zero] at O; have c2 : W.cell? ⟨a10, 2, none⟩ = some (.slice Ae n ce) := (O.get 0 rfl).cell 2; have c3 : W.cell? ⟨a10, 3, none⟩ = some (.int .i64 X.P.n) := (O.get 0 rfl).cell 3)
    | (refine own_load 49 2 O rfl rfl rfl rfl rfl Try.underlying27 rfl (by kernel_rfl) ?_; simp only [Act.put, List.setIfInBounds_toArray, List.set_cons_zero, List.set_cons_succ])
    | (refine own_load 57 2 O rfl rfl rfl rfl rfl Try.underlying27 rfl (by kernel_rfl) ?_; simp only [Act.put, List.setIfInBounds_toArray, List.set_cons_zero, List.set_cons_succ])
    | (refine own_load 97 2 O rfl rfl rfl rfl rfl Try.underlying27 rfl (by kernel_rfl) ?_; simp only [Act.put, List.setIfInBounds_toArray, List.set_cons_zero, List.set_cons_succ])
    | (go_at_call 28; have hz := tvalid_any (cb := ce) (HS.out.kept O.keep) HE.out HWF.out; rw [HTH.out] at hz; refine hz.mono ?_; clear hz c2 c3; rintro e W ⟨rfl, K⟩; replace O := O.keeps K; replace HE := Lib.hid (HE.out.kept K); clear K; have c3 : W.cell? ⟨a10, 3, none⟩ = some (.int .i64 X.P.n) := (O.get 0 rfl).cell 3)
    | (go_at_call 30; have hz := trunners_any (cb := ce) (HS.out.kept O.keep) HE.out HWF.out; rw [HTH.out] at hz; refine hz.mono ?_; clear hz c3; rintro e W ⟨rfl, K⟩; replace O := O.keeps K; replace HE := Lib.hid (HE.out.kept K); clear K; have c3 : W.cell? ⟨a10, 3, none⟩ = some (.int .i64 X.P.n) := (O.get 0 rfl).cell 3))
  go_ret
  exact ⟨rfl, O.keep⟩
set_option maxRecDepth 100000 in
set_option maxHeartbeats 2000000 in
theorem played_f (hS : SysIn w S A c R d) (hv : validB S = true) (hq : QWf S) (hp : IntL w pv picks) (i j cut : Int) (h1 : ¬ cut < 0) (h2 : ¬ ((playP S picks).P.ev.length : Int) < cut) (h3 : ¬ i < 0) (h4 : ¬ j < 0) (h5 : ¬ cut ≤ i) (h6 : cut ≤ j) : Calls Try.prog 18 #[.agg (sysV S A c R d), pv, .agg #[.int .i64 i, .int .i64 j, .int .i64 cut]] w fun e w' => e = .returned (.bool true) ∧ Keeps w w' [] := by
  have O := Own.start w []
  have HP := Lib.hid (fun u (k : Keeps w u []) => show Calls Try.prog 25 #[.agg (sysV S A c R d), pv] u fun e W => ∃ evs cells, e = .returned (.tuple #[.agg (runC (playP S picks).fin (playP S picks).fault evs (playP S picks).P.n cells), .int .i64 0]) ∧ RunAt u W S (playP S picks) evs cells from play_good (hS.kept k) hv (hp.kept k))
  have HWF := Lib.hid (play_awf hv hq picks)
  have HTH := Lib.hid (play_thr hv picks)
  have HRN := Lib.hid (play_run hv picks)
  obtain ⟨X, hX⟩ : ∃ X, X = playP S picks := ⟨_, rfl⟩
  rw [← hX] at HP HWF HTH HRN h2
  clear hX
  have HS := Lib.hid hS
  have HV := Lib.hid hv
  clear hS hq hp hv
  obtain ⟨n, hn⟩ : ∃ n, n = X.P.ev.length := ⟨_, rfl⟩
  rw [← hn] at HWF HTH HRN h2
  have hn4 : n ≤ 40000 := HRN.out.2.1
  have HNN := Lib.hid hn
  clear hn
  have g0 : ((X.P.n : Int) != (X.P.n : Int)) = false := by simp
  have y0 : decide (cut ≤ j) = true := decide_eq_true (by omega)
  have yy0 : cut ≤ j := by omega
  have z0 : decide (cut < 0) = false := decide_eq_false (by omega)
  have zz0 : ¬ cut < 0 := by omega
  have z1 : decide ((n : Int) < cut) = false := decide_eq_false (by omega)
  have zz1 : ¬ (n : Int) < cut := by omega
  have z2 : decide (i < 0) = false := decide_eq_false (by omega)
  have zz2 : ¬ i < 0 := by omega
  have z3 : decide (j < 0) = false := decide_eq_false (by omega)
  have zz3 : ¬ j < 0 := by omega
  have z4 : decide (cut ≤ i) = false := decide_eq_false (by omega)
  have zz4 : ¬ cut ≤ i := by omega
  clear h1 h2 h3 h4 h5 h6
  go_enter Try.func18, Try.ntmps18
  go_wp2_with (first
    | go_big_skip
    | (refine own_box 3 (sysV S A c R d) O rfl rfl rfl rfl ?_; clear O; intro W a3 O; simp only [Act.put, List.setIfInBounds_toArray, List.set_cons_zero, List.set_cons_succ])
    | (refine own_box 5 (#[.int .i64 i, .int .i64 j, .int .i64 cut]) O rfl rfl rfl rfl ?_; clear O; intro W a5 O; simp only [Act.put, List.setIfInBounds_toArray, List.set_cons_zero, List.set_cons_succ]; have c5 := (O.get 0 rfl).cell))
  go_quiet (fail)
  clear c5
  generalize hW : World.drewN W _ = W2
  replace O : Own w W2 [] [(a5, 54, #[.int .i64 i, .int .i64 j, .int .i64 cut]), (a3, 27, sysV S A c R d)] := by rw [← hW]; exact O.drewN _
  clear hW
  go_wp2_with (first
    | go_big_skip
    | (go_at_call 43; refine alive_any.mono ?_; rintro e W ⟨rfl, K⟩; replace O := O.keeps K; clear K)
    | (refine own_load 31 1 O rfl rfl rfl rfl rfl Try.underlying27 rfl (by kernel_rfl) ?_; simp only [Act.put, List.setIfInBounds_toArray, List.set_cons_zero, List.set_cons_succ])
    | (go_at_call 25; refine (HP.out _ O.keep).mono ?_; rintro e W ⟨evs, cells, rfl, HR⟩; replace O := O.keeps HR.keep; obtain ⟨Ae, ce, e1, hE, hce, hcm⟩ := HR.evs; obtain ⟨bc, mc, e2, _, _, _⟩ := HR.cell; clear HR; rw [← HNN.out] at e1 hE hce; subst e1; subst e2; have HE := Lib.hid hE; have HCE := Lib.hid hce; clear hE hce hcm)
    | (refine own_allocK 10 (#[Value.int .i64 0, .int .i64 0, .slice none 0 0, .int .i64 0, .slice none 0 0]) O rfl rfl rfl (fun _ => by kernel_rfl) ?_; clear O; intro W10 a10 O K10 hb10; have HK10 := Lib.hid (And.intro K10 hb10); clear K10 hb10; simp only [Act.put, List.setIfInBounds_toArray, List.set_cons_zero, List.set_cons_succ])
    | (refine own_store_rowK 0 (.tmp 10) (.tmp 34) (cs' := runC X.fin X.fault (.slice Ae n ce) X.P.n (.slice (some ⟨bc, 0, none⟩) mc mc)) O rfl rfl rfl rfl rfl rfl (by kernel_rfl) (by rfl) (runC_cell _ _ _ _ _ rfl rfl) ?_; clear O; intro W O K; replace HE := Lib.hid (HE.out.kept (HK10.out.1.trans K (fun b hb hlt => by rw [List.mem_singleton.1 hb] at hlt; have := HK10.out.2; omega))); clear K HK10; simp only [List.set_cons_zero] at O; have c2 : W.cell? ⟨a10, 2, none⟩ = some (.slice Ae n ce) := (O.get 0 rfl).cell 2; have c3 : W.cell? ⟨a10, 3, none⟩ = some (.int .i64 X.P.n) := (O.get 0 rfl).cell 3)
    | (refine own_load 49 2 O rfl rfl rfl rfl rfl Try.underlying27 rfl (by kernel_rfl) ?_; simp only [Act.put, List.setIfInBounds_toArray, List.set_cons_zero, List.set_cons_succ])
    | (refine own_load 57 2 O rfl rfl rfl rfl rfl Try.underlying27 rfl (by kernel_rfl) ?_; simp only [Act.put, List.setIfInBounds_toArray, List.set_cons_zero, List.set_cons_succ])
    | (refine own_load 97 2 O rfl rfl rfl rfl rfl Try.underlying27 rfl (by kernel_rfl) ?_; simp only [Act.put, List.setIfInBounds_toArray, List.set_cons_zero, List.set_cons_succ])
    | (go_at_call 28; have hz := tvalid_any (cb := ce) (HS.out.kept O.keep) HE.out HWF.out; rw [HTH.out] at hz; refine hz.mono ?_; clear hz c2 c3; rintro e W ⟨rfl, K⟩; replace O := O.keeps K; replace HE := Lib.hid (HE.out.kept K); clear K; have c3 : W.cell? ⟨a10, 3, none⟩ = some (.int .i64 X.P.n) := (O.get 0 rfl).cell 3)
    | (go_at_call 30; have hz := trunners_any (cb := ce) (HS.out.kept O.keep) HE.out HWF.out; rw [HTH.out] at hz; refine hz.mono ?_; clear hz c3; rintro e W ⟨rfl, K⟩; replace O := O.keeps K; replace HE := Lib.hid (HE.out.kept K); clear K; have c3 : W.cell? ⟨a10, 3, none⟩ = some (.int .i64 X.P.n) := (O.get 0 rfl).cell 3))
  go_ret
  exact ⟨rfl, O.keep⟩
set_option maxRecDepth 100000 in
set_option maxHeartbeats 2000000 in
theorem played_g (hS : SysIn w S A c R d) (hv : validB S = true) (hq : QWf S) (hp : IntL w pv picks) (i j cut : Int) (h1 : ¬ cut < 0) (h2 : ¬ ((playP S picks).P.ev.length : Int) < cut) (h3 : ¬ i < 0) (h4 : ¬ j < 0) (h5 : ¬ cut ≤ i) (h6 : ¬ cut ≤ j) : Calls Try.prog 18 #[.agg (sysV S A c R d), pv, .agg #[.int .i64 i, .int .i64 j, .int .i64 cut]] w fun e w' => e = .returned (.bool true) ∧ Keeps w w' [] := by
  have O := Own.start w []
  have HP := Lib.hid (fun u (k : Keeps w u []) => show Calls Try.prog 25 #[.agg (sysV S A c R d), pv] u fun e W => ∃ evs cells, e = .returned (.tuple #[.agg (runC (playP S picks).fin (playP S picks).fault evs (playP S picks).P.n cells), .int .i64 0]) ∧ RunAt u W S (playP S picks) evs cells from play_good (hS.kept k) hv (hp.kept k))
  have HWF := Lib.hid (play_awf hv hq picks)
  have HTH := Lib.hid (play_thr hv picks)
  have HRN := Lib.hid (play_run hv picks)
  obtain ⟨X, hX⟩ : ∃ X, X = playP S picks := ⟨_, rfl⟩
  rw [← hX] at HP HWF HTH HRN h2
  clear hX
  have HS := Lib.hid hS
  have HV := Lib.hid hv
  clear hS hq hp hv
  obtain ⟨n, hn⟩ : ∃ n, n = X.P.ev.length := ⟨_, rfl⟩
  rw [← hn] at HWF HTH HRN h2
  have hn4 : n ≤ 40000 := HRN.out.2.1
  have HNN := Lib.hid hn
  clear hn
  have g0 : ((X.P.n : Int) != (X.P.n : Int)) = false := by simp
  obtain ⟨p, rfl⟩ : ∃ p : Nat, i = (p : Int) := ⟨i.toNat, by omega⟩
  obtain ⟨q, rfl⟩ : ∃ q : Nat, j = (q : Int) := ⟨j.toNat, by omega⟩
  obtain ⟨m, rfl⟩ : ∃ m : Nat, cut = (m : Int) := ⟨cut.toNat, by omega⟩
  have hmn : m ≤ n := by omega
  have hpm : p < m := by omega
  have hqm : q < m := by omega
  obtain ⟨b1, b2⟩ := bef_cut (E := lE X.P.ev) (n := n) (m := m) (i := p) (j := q) HV.out hn4 (by have := tok_all HRN.out.1; rwa [← HNN.out] at this) hmn hpm hqm
  have HB1 := Lib.hid b1
  have HB2 := Lib.hid b2
  clear b1 b2
  obtain ⟨bb, hbb⟩ : ∃ bb, bb = befB (lE X.P.ev) (rmS S) p q := ⟨_, rfl⟩
  rw [← hbb] at HB1 HB2
  clear hbb
  have g1 : (bb == bb) = true := by simp
  have z0 : decide ((m : Int) < 0) = false := decide_eq_false (by omega)
  have zz0 : ¬ (m : Int) < 0 := by omega
  have z1 : decide ((n : Int) < m) = false := decide_eq_false (by omega)
  have zz1 : ¬ (n : Int) < m := by omega
  have z2 : decide (n < m) = false := decide_eq_false (by omega)
  have zz2 : ¬ n < m := by omega
  have z3 : decide ((p : Int) < 0) = false := decide_eq_false (by omega)
  have zz3 : ¬ (p : Int) < 0 := by omega
  have z4 : decide ((q : Int) < 0) = false := decide_eq_false (by omega)
  have zz4 : ¬ (q : Int) < 0 := by omega
  have z5 : decide ((m : Int) ≤ p) = false := decide_eq_false (by omega)
  have zz5 : ¬ (m : Int) ≤ p := by omega
  have z6 : decide ((m : Int) ≤ q) = false := decide_eq_false (by omega)
  have zz6 : ¬ (m : Int) ≤ q := by omega
  have z7 : decide (m ≤ p) = false := decide_eq_false (by omega)
  have zz7 : ¬ m ≤ p := by omega
  have z8 : decide (m ≤ q) = false := decide_eq_false (by omega)
  have zz8 : ¬ m ≤ q := by omega
  clear h1 h2 h3 h4 h5 h6
  go_enter Try.func18, Try.ntmps18
  go_wp2_with (first
    | go_big_skip
    | (refine own_box 3 (sysV S A c R d) O rfl rfl rfl rfl ?_; clear O; intro W a3 O; simp only [Act.put, List.setIfInBounds_toArray, List.set_cons_zero, List.set_cons_succ])
    | (refine own_box 5 (#[.int .i64 (p : Int), .int .i64 (q : Int), .int .i64 (m : Int)]) O rfl rfl rfl rfl ?_; clear O; intro W a5 O; simp only [Act.put, List.setIfInBounds_toArray, List.set_cons_zero, List.set_cons_succ]; have c5 := (O.get 0 rfl).cell))
  go_quiet (fail)
  clear c5
  generalize hW : World.drewN W _ = W2
  replace O : Own w W2 [] [(a5, 54, #[.int .i64 (p : Int), .int .i64 (q : Int), .int .i64 (m : Int)]), (a3, 27, sysV S A c R d)] := by rw [← hW]; exact O.drewN _
  clear hW
  go_wp2_with (first
    | go_big_skip
    | (go_at_call 43; refine alive_any.mono ?_; rintro e W ⟨rfl, K⟩; replace O := O.keeps K; clear K)
    | (refine own_load 31 1 O rfl rfl rfl rfl rfl Try.underlying27 rfl (by kernel_rfl) ?_; simp only [Act.put, List.setIfInBounds_toArray, List.set_cons_zero, List.set_cons_succ])
    | (go_at_call 25; refine (HP.out _ O.keep).mono ?_; rintro e W ⟨evs, cells, rfl, HR⟩; replace O := O.keeps HR.keep; obtain ⟨Ae, ce, e1, hE, hce, hcm⟩ := HR.evs; obtain ⟨bc, mc, e2, _, _, _⟩ := HR.cell; clear HR; rw [← HNN.out] at e1 hE hce; subst e1; subst e2; have HE := Lib.hid hE; have HCE := Lib.hid hce; clear hE hce hcm)
    | (refine own_allocK 10 (#[Value.int .i64 0, .int .i64 0, .slice none 0 0, .int .i64 0, .slice none 0 0]) O rfl rfl rfl (fun _ => by kernel_rfl) ?_; clear O; intro W10 a10 O K10 hb10; have HK10 := Lib.hid (And.intro K10 hb10); clear K10 hb10; simp only [Act.put, List.setIfInBounds_toArray, List.set_cons_zero, List.set_cons_succ])
    | (refine own_store_rowK 0 (.tmp 10) (.tmp 34) (cs' := runC X.fin X.fault (.slice Ae n ce) X.P.n (.slice (some ⟨bc, 0, none⟩) mc mc)) O rfl rfl rfl rfl rfl rfl (by kernel_rfl) (by rfl) (runC_cell _ _ _ _ _ rfl rfl) ?_; clear O; intro W O K; replace HE := Lib.hid (HE.out.kept (HK10.out.1.trans K (fun b hb hlt => by rw [List.mem_singleton.1 hb] at hlt; have := HK10.out.2; omega))); clear K HK10; simp only [List.set_cons_zero] at O; have c2 : W.cell? ⟨a10, 2, none⟩ = some (.slice Ae n ce) := (O.get 0 rfl).cell 2; have c3 : W.cell? ⟨a10, 3, none⟩ = some (.int .i64 X.P.n) := (O.get 0 rfl).cell 3)
    | (refine own_load 49 2 O rfl rfl rfl rfl rfl Try.underlying27 rfl (by kernel_rfl) ?_; simp only [Act.put, List.setIfInBounds_toArray, List.set_cons_zero, List.set_cons_succ])
    | (refine own_load 57 2 O rfl rfl rfl rfl rfl Try.underlying27 rfl (by kernel_rfl) ?_; simp only [Act.put, List.setIfInBounds_toArray, List.set_cons_zero, List.set_cons_succ])
    | (refine own_load 97 2 O rfl rfl rfl rfl rfl Try.underlying27 rfl (by kernel_rfl) ?_; simp only [Act.put, List.setIfInBounds_toArray, List.set_cons_zero, List.set_cons_succ])
    | (go_at_call 28; have hz := tvalid_any (cb := ce) (HS.out.kept O.keep) HE.out HWF.out; rw [HTH.out] at hz; refine hz.mono ?_; clear hz c2 c3; rintro e W ⟨rfl, K⟩; replace O := O.keeps K; replace HE := Lib.hid (HE.out.kept K); clear K; have c3 : W.cell? ⟨a10, 3, none⟩ = some (.int .i64 X.P.n) := (O.get 0 rfl).cell 3)
    | (go_at_call 30; have hz := trunners_any (cb := ce) (HS.out.kept O.keep) HE.out HWF.out; rw [HTH.out] at hz; refine hz.mono ?_; clear hz c3; rintro e W ⟨rfl, K⟩; replace O := O.keeps K; replace HE := Lib.hid (HE.out.kept K); clear K; have c3 : W.cell? ⟨a10, 3, none⟩ = some (.int .i64 X.P.n) := (O.get 0 rfl).cell 3)
    | (go_at_call 44; have hz := tbefore_any (cb := ce) (HS.out.kept O.keep) HE.out HCE.out HWF.out (p : Int) (q : Int); rw [HB1.out] at hz; refine hz.mono ?_; clear hz c3; rintro e W ⟨rfl, K⟩; replace O := O.keeps K; replace HE := Lib.hid (HE.out.kept K); clear K; have c3 : W.cell? ⟨a10, 3, none⟩ = some (.int .i64 X.P.n) := (O.get 0 rfl).cell 3))
  obtain ⟨ad, rfl, hEc⟩ := HE.out (by omega)
  clear hEc
  have k1 : (m : Int) ≤ ce := by have := HCE.out; omega
  have k2 : m ≤ ce := by have := HCE.out; omega
  have k3 : (0 : Int) ≤ m := by omega
  have k4 : (m : Int) ≤ n := by omega
  have k5 : (n : Int) ≤ ce := by have := HCE.out; omega
  clear c3
  refine wp_held (S := fun u => Own w u [] [(a10, 33, runC X.fin X.fault (.slice (some ad) n ce) X.P.n (.slice (some ⟨bc, 0, none⟩) mc mc)), (a5, 54, #[.int .i64 (p : Int), .int .i64 (q : Int), .int .i64 (m : Int)]), (a3, 27, sysV S A c R d)]) 12 #[false, false, false, false, false, false, false, false, false, false, false, false] (by kernel_rfl) rfl rfl ?_
  replace O := O.drew
  replace HE := Lib.hid (HE.out.kept (Keeps.refl _ []).drew)
  refine seg_take (fuel := 6) (L' := #[true, true, true, true, true, true, false, false, false, false, false, false]) (by kernel_rfl) (fun _ _ _ _ _ _ h => h) (by exact O) [0, 1, 2, 3, 4, 5] [_, _, _, _, _, _] _ _ rfl (by kernel_rfl) ?_
  simp only [List.getElem_toArray, List.getElem_cons_zero, List.getElem_cons_succ]
  repeat (first
    | (refine take_load 105 rfl (by rfl) rfl rfl (fun _ h => Own.get h 2 rfl) Try.underlying27 rfl (by kernel_rfl) ?_; simp only [Act.put, List.setIfInBounds_toArray, List.set_cons_zero, List.set_cons_succ])
    | (refine take_pure (v := ?_) (by rfl) ?_ ?_; rotate_left; (· (intro w hSw; clear hSw; go_simp; try with_reducible rfl)); simp only [Act.put, List.setIfInBounds_toArray, List.set_cons_zero, List.set_cons_succ]))
  refine take_done ?_
  refine seg_sole 6 #[true, true, true, true, true, true, true, false, false, false, false, false] rfl (by kernel_rfl) ?_
  try simp only [List.getElem_toArray, List.getElem_cons_zero, List.getElem_cons_succ]
  go_wp2_with (go_at_call 44; have hz := tbefore_any (B := some ad) (n := m) (cb := ce) (HS.out.kept O.keep) (evs_le HE.out hmn) (by omega) (fun i hi => HWF.out i (by omega)) (p : Int) (q : Int); rw [HB2.out] at hz; refine hz.mono ?_; clear hz; rintro e W ⟨rfl, K⟩; replace O := O.keeps K; clear K)
  (first | refine back_intro2 (by exact O) ?_ | refine back_intro (by exact O) ?_)
  refine seg_take (fuel := 0) (L' := #[true, true, true, true, true, true, true, true, true, true, true, true]) (by kernel_rfl) (fun _ _ _ _ _ _ h => h) (by exact O) [7, 8, 9, 10, 11] [_, _, _, _, _] _ _ rfl (by kernel_rfl) ?_
  simp only [List.getElem_toArray, List.getElem_cons_zero, List.getElem_cons_succ]
  repeat (first
    | (refine take_pure (v := ?_) (by rfl) ?_ ?_; rotate_left; (· (intro w hSw; clear hSw; go_simp; try with_reducible rfl)); simp only [Act.put, List.setIfInBounds_toArray, List.set_cons_zero, List.set_cons_succ]))
  refine take_done ?_
  refine seg_done (by kernel_rfl) ?_
  go_wp2_with (first | go_big_skip)
  go_ret
  exact ⟨rfl, O.keep⟩
theorem played_walk (hS : SysIn w S A c R d) (hq : QWf S) (hp : IntL w pv picks) (i j cut : Int) : Calls Try.prog 18 #[.agg (sysV S A c R d), pv, .agg #[.int .i64 i, .int .i64 j, .int .i64 cut]] w fun e w' => e = .returned (.bool true) ∧ Keeps w w' [] := by
  cases hv : validB S with
  | false => exact played_bad hS hv i j cut
  | true =>
    by_cases h1 : cut < 0
    · exact played_a hS hv hq hp i j cut h1
    by_cases h2 : ((playP S picks).P.ev.length : Int) < cut
    · exact played_b hS hv hq hp i j cut h1 h2
    by_cases h3 : i < 0
    · exact played_c hS hv hq hp i j cut h1 h2 h3
    by_cases h4 : j < 0
    · exact played_d hS hv hq hp i j cut h1 h2 h3 h4
    by_cases h5 : cut ≤ i
    · exact played_e hS hv hq hp i j cut h1 h2 h3 h4 h5
    by_cases h6 : cut ≤ j
    · exact played_f hS hv hq hp i j cut h1 h2 h3 h4 h5 h6
    exact played_g hS hv hq hp i j cut h1 h2 h3 h4 h5 h6
end
end Go.Proofs.Ytakmcpadkanggaa
namespace Go.Proofs.Ytakmcpadkanggaa
open Go.ChangeShapes Go.WideShapes Go.RowKit Go.Maps Go.Deep
section
variable {w : World}
set_option maxRecDepth 100000 in
/-- A list of integers, opened. -/
theorem open_picks {H : Type} {enc : TypeId × Value → H} {base : Nat} {v : Value} {d : DataW H} {p : List MemPlace} (hval : Value.okWide Try.prog w .any base 25 v) (h : DataW.Trod enc Try.prog w 0 (fun _ => true) true 25 v d p) : ∃ picks, IntL w v picks := by
  obtain ⟨a0, len0, cap0, rfl⟩ := okWide_slice Try.underlying25 hval
  obtain ⟨fuel, hf⟩ := h
  obtain ⟨A, n, c, f, e, h1, h2, h3⟩ := open_rooms (v := .slice a0 len0 cap0) hf
  refine ⟨(List.range n).map fun i => f i, A, c, by rw [e]; simp, fun hn => ?_⟩
  simp only [List.length_map, List.length_range] at hn ⊢
  obtain ⟨ad, e1, hb, hc⟩ := h3 hn
  refine ⟨ad, e1, hb, fun j hj => ?_⟩
  rw [hc j hj]
  simp [List.getD_eq_getElem?_getD, hj]
end
end Go.Proofs.Ytakmcpadkanggaa

/-
 Part 12 of what this claim rests on.
-/
import Derived.Recover
import Derived.Test.YtakmcpadkanggaaOd11
namespace Go.Proofs.Ytakmcpadkanggaa
open Go.RowKit Go.Maps Go.Deep
section
variable {S : Sys} {p : Nat} {f : Nat → Int}
theorem right_a (h : rightS S p f = true) (ho : f 0 = 1) : 0 ≤ f 1 ∧ f 1 < 8 := by
 unfold rightS at h
 rw [ho] at h; simp [kd, kdL, mayS, bnd, opOk] at h; omega
theorem right_ab (h : rightS S p f = true) (ho : f 0 = 2 ∨ f 0 = 3 ∨ f 0 = 12 ∨ f 0 = 13) : 0 ≤ f 1 ∧ f 1 < 8 ∧ 0 ≤ f 2 ∧ f 2 < 8 := by
 unfold rightS at h
 rcases ho with ho | ho | ho | ho <;> rw [ho] at h <;> simp [kd, kdL, mayS, bnd, opOk] at h <;> omega
theorem right_b (h : rightS S p f = true) (ho : f 0 = 5 ∨ f 0 = 6 ∨ f 0 = 15) : 0 ≤ f 2 ∧ f 2 < 8 := by
 unfold rightS at h
 rcases ho with ho | ho | ho <;> rw [ho] at h <;> simp [kd, kdL, mayS, bnd, opOk] at h <;> omega
theorem right_c (h : rightS S p f = true) (ho : f 0 = 3 ∨ f 0 = 4 ∨ f 0 = 6) : 0 ≤ f 3 := by
 unfold rightS at h
 rcases ho with ho | ho | ho <;> rw [ho] at h <;> simp [kd, kdL, mayS, bnd, opOk] at h <;> omega
end
def stepEnd (x : Int) : Ending := if x = 0 then .returned (.tuple #[]) else .panicked [{ v := .iface 22 (.int .i64 x), recovered := false }]
section
variable {w W : World} {Lr : List Ent} {S : Sys} {A : Option Addr} {c : Nat} {R : Option Addr} {d : Nat} {y : Ly}
theorem step_any {P : PW} {k : Nat} {f : Nat → Int} (h : InW w W S A c R d y Lr P) (hS : SysIn w S A c R d) (hvd : validB S = true) (hr : RInv S P) (hk : k < P.n) (hI : instP S (P.rs k) = some f) (hlk : S.lk = (y.lk : Int)) (hgr : S.gr = (y.gr : Int)) (hce : S.ce = (y.ce : Int))
   (hE : P.ev.length ≤ 100000) (hH : ∀ c, (P.held c).length ≤ 1000000) : Calls Try.prog 91 #[.pointer (some ⟨y.wp, 0, none⟩), .int .i64 (k : Int)] W fun e W' => InW w W' S A c R d y Lr (stepP S P k f).1 ∧ e = stepEnd (stepP S P k f).2 := by
 have hp := hr k hk
 have hrt := right_of hvd hp hI
 have hl : S.lp (P.rs k).prog ≤ 256 := (((validB_iff S).1 hvd).2.2 _ hp).1
 have hce64 : y.ce ≤ 64 := by
   have := ((headB_iff S).1 ((validB_iff S).1 hvd).1).2.2.2.2.2
   rw [shB_iff] at this
   omega
 obtain ⟨gw, cw, cur, evs, hv, M, hC, h1, h2, h3⟩ := h
 obtain ⟨n, rs, held, cl, lk, gr, ce, ev⟩ := P
 obtain ⟨o1, o2⟩ := right_op hrt
 simp only at hp hrt hl hk hI hE hH M hC h1 h2 h3
 have hop : f 0 = 1 ∨ f 0 = 2 ∨ f 0 = 3 ∨ f 0 = 4 ∨ f 0 = 5 ∨ f 0 = 6 ∨ f 0 = 7 ∨ f 0 = 8 ∨ f 0 = 9 ∨ f 0 = 10 ∨ f 0 = 11 ∨ f 0 = 12 ∨ f 0 = 13 ∨ f 0 = 14 ∨ f 0 = 15 ∨ f 0 = 16 := by omega
 rcases hop with o | o | o | o | o | o | o | o | o | o | o | o | o | o | o | o
 · have ra := right_a hrt o
   obtain ⟨aN, eaN⟩ : ∃ aN : Nat, f 1 = (aN : Int) := ⟨(f 1).toNat, by omega⟩
   refine (st_1 (b := f 2) (b3 := f 3) M hC hk hS hp hl hE h1 h2 h3 hI o eaN rfl rfl (by omega)).mono ?_
   rintro e W' ⟨he, hw⟩
   have hs : stepP S ⟨n, rs, held, cl, lk, gr, ce, ev⟩ k f = (⟨n, (fun j => if j = k then { setReg (rs k) aN (f 2) with pos := (rs k).pos + 1 } else rs j), held, cl, lk, gr, ce, ev ++ [⟨k, 1, 0, 0, false⟩]⟩, 0) := by
     unfold stepP
     simp only [o]
     simp [eaN, finP, tellP, setR]
     try rfl
   rw [hs]
   exact ⟨hw, he⟩
 · have ra := right_ab hrt (.inl o)
   obtain ⟨aN, eaN⟩ : ∃ aN : Nat, f 1 = (aN : Int) := ⟨(f 1).toNat, by omega⟩
   obtain ⟨bN, ebN⟩ : ∃ bN : Nat, f 2 = (bN : Int) := ⟨(f 2).toNat, by omega⟩
   refine (st_2 (b3 := f 3) M hC hk hS hp hl hE h1 h2 h3 hI o eaN ebN rfl (by omega) (by omega) rfl).mono ?_
   rintro e W' ⟨he, hw⟩
   have hs : stepP S ⟨n, rs, held, cl, lk, gr, ce, ev⟩ k f = (⟨n, (fun j => if j = k then { setReg (rs k) aN (IntKind.i64.wrap ((rs k).rg aN + (rs k).rg bN)) with pos := (rs k).pos + 1 } else rs j), held, cl, lk, gr, ce, ev ++ [⟨k, 2, 0, 0, false⟩]⟩, 0) := by
     unfold stepP
     simp only [o]
     simp [eaN, ebN, finP, tellP, setR]
     try rfl
   rw [hs]
   exact ⟨hw, he⟩
 · have ra := right_ab hrt (.inr (.inl o))
   have rc := right_c hrt (.inl o)
   obtain ⟨aN, eaN⟩ : ∃ aN : Nat, f 1 = (aN : Int) := ⟨(f 1).toNat, by omega⟩
   obtain ⟨bN, ebN⟩ : ∃ bN : Nat, f 2 = (bN : Int) := ⟨(f 2).toNat, by omega⟩
   obtain ⟨cN, ecN⟩ : ∃ cN : Nat, f 3 = (cN : Int) := ⟨(f 3).toNat, by omega⟩
   by_cases hlt : (rs k).rg bN ≤ (rs k).rg aN
   · refine (st_3a  M hC hk hS hp hl hE h1 h2 h3 hI o eaN ebN ecN (by omega) (by omega) hlt).mono ?_
     rintro e W' ⟨he, hw⟩
     have hs : stepP S ⟨n, rs, held, cl, lk, gr, ce, ev⟩ k f = (⟨n, (fun j => if j = k then { rs k with pos := (rs k).pos + 1 } else rs j), held, cl, lk, gr, ce, ev ++ [⟨k, 3, 0, 0, false⟩]⟩, 0) := by
       unfold stepP
       simp only [o]
       simp [eaN, ebN, hlt, finP, tellP, setR]
       try rfl
     rw [hs]
     exact ⟨hw, he⟩
   · refine (st_3b  M hC hk hS hp hl hE h1 h2 h3 hI o eaN ebN ecN (by omega) (by omega) (by omega)).mono ?_
     rintro e W' ⟨he, hw⟩
     have hs : stepP S ⟨n, rs, held, cl, lk, gr, ce, ev⟩ k f = (⟨n, (fun j => if j = k then { rs k with pos := cN } else rs j), held, cl, lk, gr, ce, ev ++ [⟨k, 3, 0, 0, false⟩]⟩, 0) := by
       unfold stepP
       simp only [o]
       simp [eaN, ebN, ecN, hlt, finP, tellP, setR]
       try rfl
     rw [hs]
     exact ⟨hw, he⟩
 · have rc := right_c hrt (.inr (.inl o))
   obtain ⟨cN, ecN⟩ : ∃ cN : Nat, f 3 = (cN : Int) := ⟨(f 3).toNat, by omega⟩
   refine (st_4 (b := f 1) (b4 := f 2) M hC hk hS hp hl hE h1 h2 h3 hI o rfl rfl ecN).mono ?_
   rintro e W' ⟨he, hw⟩
   have hs : stepP S ⟨n, rs, held, cl, lk, gr, ce, ev⟩ k f = (⟨n, (fun j => if j = k then { rs k with pos := cN } else rs j), held, cl, lk, gr, ce, ev ++ [⟨k, 4, 0, 0, false⟩]⟩, 0) := by
     unfold stepP
     simp only [o]
     simp [ecN, finP, tellP, setR]
     try rfl
   rw [hs]
   exact ⟨hw, he⟩
 · have ra := right_room hrt (.inl o)
   have rb := right_b hrt (.inl o)
   obtain ⟨aN, eaN⟩ : ∃ aN : Nat, f 1 = (aN : Int) := ⟨(f 1).toNat, by omega⟩
   obtain ⟨bN, ebN⟩ : ∃ bN : Nat, f 2 = (bN : Int) := ⟨(f 2).toNat, by omega⟩
   cases hcl : cl aN with
   | true =>
     refine (st_5c (b3 := f 3) M hC hk hS hp hl hE h1 h2 h3 hI o eaN ebN rfl (by omega) (by omega) hcl).mono ?_
     rintro e W' ⟨he, hw⟩
     have hs : stepP S ⟨n, rs, held, cl, lk, gr, ce, ev⟩ k f = (⟨n, rs, held, cl, lk, gr, ce, ev ++ [⟨k, 5, aN, ((rs k).rg bN), false⟩]⟩, 131) := by
       unfold stepP
       simp only [o]
       simp [eaN, ebN, hcl, tellP]
       try rfl
     rw [hs]
     exact ⟨hw, he⟩
   | false =>
     refine (st_5o (b3 := f 3) M hC hk hS hp hl hE h1 h2 h3 hI o eaN ebN rfl (hH aN) (by omega) (by omega) hcl).mono ?_
     rintro e W' ⟨he, hw⟩
     have hs : stepP S ⟨n, rs, held, cl, lk, gr, ce, ev⟩ k f = (⟨n, (fun j => if j = k then { rs k with pos := (rs k).pos + 1 } else rs j), updN held aN (held aN ++ [(rs k).rg bN]), cl, lk, gr, ce, ev ++ [⟨k, 5, aN, ((rs k).rg bN), false⟩]⟩, 0) := by
       unfold stepP
       simp only [o]
       simp [eaN, ebN, hcl, finP, tellP, setR]
       try rfl
     rw [hs]
     exact ⟨hw, he⟩
 · have ra := right_room hrt (.inr (.inl o))
   have rb := right_b hrt (.inr (.inl o))
   have rc := right_c hrt (.inr (.inr o))
   obtain ⟨aN, eaN⟩ : ∃ aN : Nat, f 1 = (aN : Int) := ⟨(f 1).toNat, by omega⟩
   obtain ⟨bN, ebN⟩ : ∃ bN : Nat, f 2 = (bN : Int) := ⟨(f 2).toNat, by omega⟩
   obtain ⟨cN, ecN⟩ : ∃ cN : Nat, f 3 = (cN : Int) := ⟨(f 3).toNat, by omega⟩
   have hq := M.hr aN (by show aN < S.nr; omega)
   have hq : HRow w.heap.size W (hv aN) (held aN) := hq
   cases hh : held aN with
   | nil =>
     rw [hh] at hq
     obtain ⟨A0, c1, hv0⟩ : ∃ A0 c1, hv aN = .slice A0 0 c1 := by
       rcases hq with ⟨h, _⟩ | ⟨g, off, cap, cur', h, _⟩
       · exact ⟨_, _, h⟩
       · exact ⟨_, _, h⟩
     refine (st_6n (b := f 2) M hC hk hS hp hl hE h1 h2 h3 hI o eaN rfl ecN hv0 (by omega)).mono ?_
     rintro e W' ⟨he, hw⟩
     have hs : stepP S ⟨n, rs, held, cl, lk, gr, ce, ev⟩ k f = (⟨n, (fun j => if j = k then { rs k with pos := cN } else rs j), held, cl, lk, gr, ce, ev ++ [⟨k, 6, aN, 0, true⟩]⟩, 0) := by
       unfold stepP
       simp only [o]
       simp [eaN, ecN, hh, finP, tellP, setR]
       try rfl
     rw [hs]
     exact ⟨hw, he⟩
   | cons x l =>
     rw [hh] at hq
     obtain ⟨g, off, cc, hv0, hcc⟩ : ∃ g off cc, hv aN = .slice (some ⟨g, off, none⟩) (l.length + 1) cc ∧ 1 ≤ cc := by
       rcases hq with ⟨_, h⟩ | ⟨g, off, cap, cur', h, _, _, h4, _⟩
       · cases h
       · exact ⟨g, off, cap, h, by simp at h4; omega⟩
     by_cases h1c : cc = 1
     · refine (st_6a (b3 := f 3) M hC hk hS hp hl hE h1 h2 h3 hI o eaN ebN rfl hv0 hh h1c (by omega) (by omega)).mono ?_
       rintro e W' ⟨he, hw⟩
       have hs : stepP S ⟨n, rs, held, cl, lk, gr, ce, ev⟩ k f = (⟨n, (fun j => if j = k then { setReg (rs k) bN x with pos := (rs k).pos + 1 } else rs j), updN held aN l, cl, lk, gr, ce, ev ++ [⟨k, 6, aN, x, false⟩]⟩, 0) := by
         unfold stepP
         simp only [o]
         simp [eaN, ebN, hh, finP, tellP, setR]
         try rfl
       rw [hs]
       exact ⟨hw, he⟩
     · refine (st_6b (b3 := f 3) M hC hk hS hp hl hE h1 h2 h3 hI o eaN ebN rfl hv0 hh (by omega) (by omega) (by omega)).mono ?_
       rintro e W' ⟨he, hw⟩
       have hs : stepP S ⟨n, rs, held, cl, lk, gr, ce, ev⟩ k f = (⟨n, (fun j => if j = k then { setReg (rs k) bN x with pos := (rs k).pos + 1 } else rs j), updN held aN l, cl, lk, gr, ce, ev ++ [⟨k, 6, aN, x, false⟩]⟩, 0) := by
         unfold stepP
         simp only [o]
         simp [eaN, ebN, hh, finP, tellP, setR]
         try rfl
       rw [hs]
       exact ⟨hw, he⟩
 · have ra := right_room hrt (.inr (.inr o))
   obtain ⟨aN, eaN⟩ : ∃ aN : Nat, f 1 = (aN : Int) := ⟨(f 1).toNat, by omega⟩
   cases hcl : cl aN with
   | true =>
     refine (st_7c (b := f 2) (b3 := f 3) M hC hk hS hp hl hE h1 h2 h3 hI o eaN rfl rfl (by omega) hcl).mono ?_
     rintro e W' ⟨he, hw⟩
     have hs : stepP S ⟨n, rs, held, cl, lk, gr, ce, ev⟩ k f = (⟨n, rs, held, cl, lk, gr, ce, ev ++ [⟨k, 7, aN, 0, false⟩]⟩, 132) := by
       unfold stepP
       simp only [o]
       simp [eaN, hcl, tellP]
       try rfl
     rw [hs]
     exact ⟨hw, he⟩
   | false =>
     refine (st_7o (b := f 2) (b3 := f 3) M hC hk hS hp hl hE h1 h2 h3 hI o eaN rfl rfl (by omega) hcl).mono ?_
     rintro e W' ⟨he, hw⟩
     have hs : stepP S ⟨n, rs, held, cl, lk, gr, ce, ev⟩ k f = (⟨n, (fun j => if j = k then { rs k with pos := (rs k).pos + 1 } else rs j), held, updN cl aN true, lk, gr, ce, ev ++ [⟨k, 7, aN, 0, false⟩]⟩, 0) := by
       unfold stepP
       simp only [o]
       simp [eaN, hcl, finP, tellP, setR]
       try rfl
     rw [hs]
     exact ⟨hw, he⟩
 · have ra := right_lock hrt (.inl o)
   obtain ⟨aN, eaN⟩ : ∃ aN : Nat, f 1 = (aN : Int) := ⟨(f 1).toNat, by omega⟩
   refine (st_8 (b := f 2) (b3 := f 3) M hC hk hS hp hl hE h1 h2 h3 hI o eaN rfl rfl (by omega)).mono ?_
   rintro e W' ⟨he, hw⟩
   have hs : stepP S ⟨n, rs, held, cl, lk, gr, ce, ev⟩ k f = (⟨n, (fun j => if j = k then { rs k with pos := (rs k).pos + 1 } else rs j), held, cl, updI lk aN true, gr, ce, ev ++ [⟨k, 8, aN, 0, false⟩]⟩, 0) := by
     unfold stepP
     simp only [o]
     simp [eaN, finP, tellP, setR]
     try rfl
   rw [hs]
   exact ⟨hw, he⟩
 · have ra := right_lock hrt (.inr o)
   obtain ⟨aN, eaN⟩ : ∃ aN : Nat, f 1 = (aN : Int) := ⟨(f 1).toNat, by omega⟩
   cases hcl : lk aN with
   | true =>
     refine (st_9t (b := f 2) (b3 := f 3) M hC hk hS hp hl hE h1 h2 h3 hI o eaN rfl rfl (by omega) hcl).mono ?_
     rintro e W' ⟨he, hw⟩
     have hs : stepP S ⟨n, rs, held, cl, lk, gr, ce, ev⟩ k f = (⟨n, (fun j => if j = k then { rs k with pos := (rs k).pos + 1 } else rs j), held, cl, updI lk aN false, gr, ce, ev ++ [⟨k, 9, aN, 0, false⟩]⟩, 0) := by
       unfold stepP
       simp only [o]
       simp [eaN, hcl, finP, tellP, setR]
       try rfl
     rw [hs]
     exact ⟨hw, he⟩
   | false =>
     refine (st_9f (b := f 2) (b3 := f 3) M hC hk hS hp hl hE h1 h2 h3 hI o eaN rfl rfl (by omega) hcl).mono ?_
     rintro e W' ⟨he, hw⟩
     have hs : stepP S ⟨n, rs, held, cl, lk, gr, ce, ev⟩ k f = (⟨n, rs, held, cl, lk, gr, ce, ev ++ [⟨k, 9, aN, 0, false⟩]⟩, 133) := by
       unfold stepP
       simp only [o]
       simp [eaN, hcl, tellP]
       try rfl
     rw [hs]
     exact ⟨hw, he⟩
 · have ra := right_group hrt (.inl o)
   obtain ⟨aN, eaN⟩ : ∃ aN : Nat, f 1 = (aN : Int) := ⟨(f 1).toNat, by omega⟩
   by_cases hs0 : IntKind.i64.wrap (gr aN + f 2) < 0
   · refine (st_10g (b := f 2) (b3 := f 3) M hC hk hS hp hl hE h1 h2 h3 hI o eaN rfl rfl (by omega) rfl hs0).mono ?_
     rintro e W' ⟨he, hw⟩
     have hs : stepP S ⟨n, rs, held, cl, lk, gr, ce, ev⟩ k f = (⟨n, rs, held, cl, lk, gr, ce, ev ++ [⟨k, 10, aN, (IntKind.i64.wrap (gr aN + f 2)), false⟩]⟩, 134) := by
       unfold stepP
       simp only [o]
       simp [eaN, hs0, tellP]
       try rfl
     rw [hs]
     exact ⟨hw, he⟩
   · refine (st_10n (b := f 2) (b3 := f 3) M hC hk hS hp hl hE h1 h2 h3 hI o eaN rfl rfl (by omega) rfl hs0).mono ?_
     rintro e W' ⟨he, hw⟩
     have hs : stepP S ⟨n, rs, held, cl, lk, gr, ce, ev⟩ k f = (⟨n, (fun j => if j = k then { rs k with pos := (rs k).pos + 1 } else rs j), held, cl, lk, updI gr aN (IntKind.i64.wrap (gr aN + f 2)), ce, ev ++ [⟨k, 10, aN, (IntKind.i64.wrap (gr aN + f 2)), false⟩]⟩, 0) := by
       unfold stepP
       simp only [o]
       simp [eaN, hs0, finP, tellP, setR]
       try rfl
     rw [hs]
     exact ⟨hw, he⟩
 · have ra := right_group hrt (.inr o)
   obtain ⟨aN, eaN⟩ : ∃ aN : Nat, f 1 = (aN : Int) := ⟨(f 1).toNat, by omega⟩
   refine (st_11 (b := f 2) (b3 := f 3) M hC hk hS hp hl hE h1 h2 h3 hI o eaN rfl rfl).mono ?_
   rintro e W' ⟨he, hw⟩
   have hs : stepP S ⟨n, rs, held, cl, lk, gr, ce, ev⟩ k f = (⟨n, (fun j => if j = k then { rs k with pos := (rs k).pos + 1 } else rs j), held, cl, lk, gr, ce, ev ++ [⟨k, 11, aN, 0, false⟩]⟩, 0) := by
     unfold stepP
     simp only [o]
     simp [eaN, finP, tellP, setR]
     try rfl
   rw [hs]
   exact ⟨hw, he⟩
 · have ra := right_ab hrt (.inr (.inr (.inl o)))
   obtain ⟨aN, eaN⟩ : ∃ aN : Nat, f 1 = (aN : Int) := ⟨(f 1).toNat, by omega⟩
   obtain ⟨bN, ebN⟩ : ∃ bN : Nat, f 2 = (bN : Int) := ⟨(f 2).toNat, by omega⟩
   have hc0 := right_cells hrt (.inl o)
   have hce0 : 0 < y.ce := by omega
   have hm1 := Int.emod_nonneg ((rs k).rg aN) hc0
   have hm2 := Int.emod_lt_of_pos ((rs k).rg aN) (b := S.ce) (by omega)
   obtain ⟨x, ex⟩ : ∃ x : Nat, (rs k).rg aN % S.ce = (x : Int) := ⟨((rs k).rg aN % S.ce).toNat, by omega⟩
   refine (st_12 (b3 := f 3) M hC hk hS hp hl hE h1 h2 h3 hI o eaN ebN rfl (by omega) (by omega) (x := x) (by omega) (by rw [← hce]; exact ex) hce0 hce64).mono ?_
   rintro e W' ⟨he, hw⟩
   have hs : stepP S ⟨n, rs, held, cl, lk, gr, ce, ev⟩ k f = (⟨n, (fun j => if j = k then { setReg (rs k) bN (ce x) with pos := (rs k).pos + 1 } else rs j), held, cl, lk, gr, ce, ev ++ [⟨k, 12, x, (ce x), false⟩]⟩, 0) := by
     unfold stepP
     simp only [o]
     simp [eaN, ebN, ex, finP, tellP, setR]
     try rfl
   rw [hs]
   exact ⟨hw, he⟩
 · have ra := right_ab hrt (.inr (.inr (.inr o)))
   obtain ⟨aN, eaN⟩ : ∃ aN : Nat, f 1 = (aN : Int) := ⟨(f 1).toNat, by omega⟩
   obtain ⟨bN, ebN⟩ : ∃ bN : Nat, f 2 = (bN : Int) := ⟨(f 2).toNat, by omega⟩
   have hc0 := right_cells hrt (.inr o)
   have hce0 : 0 < y.ce := by omega
   have hm1 := Int.emod_nonneg ((rs k).rg aN) hc0
   have hm2 := Int.emod_lt_of_pos ((rs k).rg aN) (b := S.ce) (by omega)
   obtain ⟨x, ex⟩ : ∃ x : Nat, (rs k).rg aN % S.ce = (x : Int) := ⟨((rs k).rg aN % S.ce).toNat, by omega⟩
   refine (st_13 (b3 := f 3) M hC hk hS hp hl hE h1 h2 h3 hI o eaN ebN rfl (by omega) (by omega) (x := x) (by omega) (by rw [← hce]; exact ex) hce0 hce64).mono ?_
   rintro e W' ⟨he, hw⟩
   have hs : stepP S ⟨n, rs, held, cl, lk, gr, ce, ev⟩ k f = (⟨n, (fun j => if j = k then { rs k with pos := (rs k).pos + 1 } else rs j), held, cl, lk, gr, updI ce x ((rs k).rg bN), ev ++ [⟨k, 13, x, ((rs k).rg bN), false⟩]⟩, 0) := by
     unfold stepP
     simp only [o]
     simp [eaN, ebN, ex, finP, tellP, setR]
     try rfl
   rw [hs]
   exact ⟨hw, he⟩
 · have ra := right_start hrt o
   obtain ⟨aN, eaN⟩ : ∃ aN : Nat, f 1 = (aN : Int) := ⟨(f 1).toNat, by omega⟩
   by_cases hn : 512 ≤ n
   · refine (st_14f (b := f 2) (b3 := f 3) M hC hk hS hp hl hE h1 h2 h3 hI o eaN rfl rfl hn).mono ?_
     rintro e W' ⟨he, hw⟩
     have hs : stepP S ⟨n, rs, held, cl, lk, gr, ce, ev⟩ k f = (⟨n, rs, held, cl, lk, gr, ce, ev ++ [⟨k, 14, aN, 0, false⟩]⟩, 135) := by
       unfold stepP
       simp only [o]
       simp [eaN, hn, tellP]
       try rfl
     rw [hs]
     exact ⟨hw, he⟩
   · refine (st_14 (b := f 2) (b3 := f 3) M hC hk hS hp hl hE h1 h2 h3 hI o eaN rfl rfl (by omega)).mono ?_
     rintro e W' ⟨he, hw⟩
     have hs : stepP S ⟨n, rs, held, cl, lk, gr, ce, ev⟩ k f = (⟨n + 1, (fun j => if j = k then { rs k with pos := (rs k).pos + 1 } else updN rs n ⟨aN, 0, (rs k).rg⟩ j), held, cl, lk, gr, ce, ev ++ [⟨k, 14, aN, n, false⟩]⟩, 0) := by
       unfold stepP
       simp only [o]
       simp [eaN, hn, finP, tellP, setR]
       try rfl
     rw [hs]
     exact ⟨hw, he⟩
 · have rb := right_b hrt (.inr (.inr o))
   obtain ⟨bN, ebN⟩ : ∃ bN : Nat, f 2 = (bN : Int) := ⟨(f 2).toNat, by omega⟩
   refine (st_15 (b := f 1) (b3 := f 3) M hC hk hS hp hl hE h1 h2 h3 hI o rfl ebN rfl (by omega)).mono ?_
   rintro e W' ⟨he, hw⟩
   have hs : stepP S ⟨n, rs, held, cl, lk, gr, ce, ev⟩ k f = (⟨n, (fun j => if j = k then { rs k with pos := (rs k).pos + 1 } else rs j), held, cl, lk, gr, ce, ev ++ [⟨k, 15, (f 1), ((rs k).rg bN), false⟩]⟩, 0) := by
     unfold stepP
     simp only [o]
     simp [ebN, finP, tellP, setR]
     try rfl
   rw [hs]
   exact ⟨hw, he⟩
 · refine (st_16 (b := f 1) (b4 := f 2) (b3 := f 3) M hC hk hS hp hl hE h1 h2 h3 hI o rfl rfl rfl).mono ?_
   rintro e W' ⟨he, hw⟩
   have hs : stepP S ⟨n, rs, held, cl, lk, gr, ce, ev⟩ k f = (⟨n, (fun j => if j = k then { rs k with pos := S.lp (rs k).prog } else rs j), held, cl, lk, gr, ce, ev ++ [⟨k, 16, 0, 0, false⟩]⟩, 0) := by
     unfold stepP
     simp only [o]
     simp [finP, tellP, setR]
     try rfl
   rw [hs]
   exact ⟨hw, he⟩
end
open Go.RowKit Go.Maps Go.Deep
theorem OM.perm {w W : World} {L L' : List Ent} {r : Rw} (M : OM w W L r) (h : L'.Perm L) : OM w W L' r := by
 obtain ⟨O, hr1, hr2, aE, aH, aHH⟩ := M
 exact ⟨⟨O.keep, fun q hq => O.blk q (h.mem_iff.1 hq), fun q hq => O.new q (h.mem_iff.1 hq), (h.map _).nodup_iff.2 O.nd⟩, hr1, hr2, fun q hq => aE q (h.mem_iff.1 hq), fun c hc q hq => aH c hc q (h.mem_iff.1 hq), aHH⟩
theorem mod_twice' (v : Int) (c : Nat) (h : 0 < c) (h' : c ≤ 1000000) : (wrap64 (v.tmod c + c)).tmod c = v % (c : Int) := by
 have h0 : (0 : Int) < c := by omega
 have h1 := Int.tmod_lt_of_pos v h0
 have h2 := Int.lt_tmod_of_pos v h0
 have e : wrap64 (v.tmod c + c) = v.tmod c + c := IntWalk.wrap64_in _ (by omega)
 rw [e, Int.tmod_eq_emod_of_nonneg (by omega), Int.add_emod_right]
 have h3 := Int.mul_tdiv_add_tmod v c
 conv => rhs; rw [← h3, Int.add_comm, Int.add_mul_emod_self_left]
def Small (P : PW) (x : PW × Int) : Prop := x.1.n ≤ P.n + 1 ∧ ∀ c, (x.1.held c).length ≤ (P.held c).length + 1
theorem small_ite {P : PW} {c : Prop} [Decidable c] {x y : PW × Int} (h1 : Small P x) (h2 : Small P y) : Small P (if c then x else y) := by split <;> assumption
theorem stepP_small (S : Sys) (P : PW) (k : Nat) (f : Nat → Int) : Small P (stepP S P k f) := by
 unfold stepP
 simp only []
 repeat' (refine small_ite ?_ ?_)
 all_goals first
   | exact ⟨Nat.le_succ _, fun c => Nat.le_succ _⟩
   | exact ⟨Nat.le_refl _, fun c => Nat.le_succ _⟩
   | skip
 · refine ⟨Nat.le_succ _, fun c => ?_⟩
   show (updN P.held (f 1).toNat _ c).length ≤ _
   by_cases e : c = (f 1).toNat
   · subst e; rw [updN_same]; simp
   · rw [updN_other _ _ _ _ e]; omega
 · cases hh : P.held (f 1).toNat with
   | nil => exact ⟨Nat.le_succ _, fun c => Nat.le_succ _⟩
   | cons x l =>
     refine ⟨Nat.le_succ _, fun c => ?_⟩
     show (updN P.held (f 1).toNat l c).length ≤ _
     by_cases e : c = (f 1).toNat
     · subst e; rw [updN_same, hh]; simp; omega
     · rw [updN_other _ _ _ _ e]; omega
section
variable {w W : World} {L : List Ent} {r : Rw} {e6 e7 : Nat}
set_option maxRecDepth 100000 in
theorem catch_panicking (x : Int) (older : List PanicEntry) (i j : Nat) (M : OM w W L r) (h6 : L[i]? = some (e6, 3, #[.int .i64 0])) (h7 : L[j]? = some (e7, 22, #[.int .i64 0])) (hne : i ≠ j) :
   CallsD Try.prog 89 #[.pointer (some ⟨e6, 0, none⟩), .pointer (some ⟨e7, 0, none⟩)] (.panicking ({ v := .iface 22 (.int .i64 x), recovered := false } :: older)) W fun e u' w' =>
     e = .returned (.tuple #[]) ∧ u' = .panicking ({ v := .iface 22 (.int .i64 x), recovered := true } :: older) ∧ OM w w' ((L.set i (e6, 3, #[.int .i64 3])).set j (e7, 22, #[.int .i64 x])) r := by
 refine callsD_of_wpS Try.func89 rfl fun c₀ cs hu => ?_
 apply wpS_seq
 apply wpS_region
 simp [wpOpsS, go_sem, recoverD, hu, Try.ntmps89, Exit.thenS]
 apply wpS_seq
 apply wpS_region
 simp [wpOpsS, go_sem, recoverD, Exit.thenS]
 refine wpS_cond (t := true) (by simp [Act.eval, Array.replicate]) ?_
 simp only [if_true]
 refine wpS_of_wp ?_
 show Code.wp Try.prog _ _ { tmps := #[.pointer (some ⟨e6, 0, none⟩), .pointer (some ⟨e7, 0, none⟩), .iface 22 (.int .i64 x), .iface 22 (.int .i64 x), .iface 22 (.int .i64 x), .bool true, undef, undef], defers := [] } W
 refine wp_headH (S := fun _ => True) 3 (by kernel_rfl) (by kernel_rfl) ?_
 replace M := M.keeps (Keeps.refl _ _).drew
 have hta : ∀ (v : Value) (w : World), (Instr.typeAssert (.iface 22 v) 20 22 false).run Try.prog w = .ok v w := fun _ _ => by kernel_rfl
 refine ah_take (f := 1) (L' := #[true, true, false, false]) trivial [0, 1] [_, _] _ _ rfl (by decide) (by kernel_rfl) ?_
 simp only [List.getElem_toArray, List.getElem_cons_zero, List.getElem_cons_succ]
 repeat (first
   | (refine take_pure (v := ?_) (by rfl) ?_ ?_; rotate_left; (· (intro w hSw; clear hSw; go_simp; try with_reducible rfl)); simp only [Act.put, kA, kZ, kS]))
 refine takeA_done ?_
 refine ah_sole 2 #[true, true, true, false] rfl (by decide) (by kernel_rfl) ?_
 try simp only [List.getElem_toArray, List.getElem_cons_zero, List.getElem_cons_succ]
 go_wp2_with (refine at_store (.tmp 0) (.const (.int .i64 3)) rfl ?_; refine om_store i 0 (.int .i64 3) (.tmp 0) (.const (.int .i64 3)) M rfl rfl rfl rfl rfl h6 (by decide) rfl rfl (by kernel_rfl) rfl ?_; clear M; intro V M)
 (first | refine backA_intro2 trivial ?_ | refine backA_intro trivial ?_)
 refine ah_tail (by kernel_rfl) ?_
 try simp only [List.drop]
 have h7' : (L.set i (e6, 3, #[Value.int .i64 3]))[j]? = some (e7, 22, #[.int .i64 0]) := (List.getElem?_set_ne hne).trans h7
 go_wp2_with (refine at_store (.tmp 1) (.tmp 7) rfl ?_; refine om_store j 0 (.int .i64 x) (.tmp 1) (.tmp 7) M rfl rfl rfl rfl rfl h7' (by decide) rfl rfl (by kernel_rfl) rfl ?_; clear M; intro V M)
 refine np_intro ?_
 cases c₀
 refine ⟨rfl, _, rfl, _, ?_, rfl, rfl, M⟩
 simp [results, Try.results89]
theorem catch_idle : CallsD Try.prog 89 #[.pointer (some ⟨e6, 0, none⟩), .pointer (some ⟨e7, 0, none⟩)] .returning W fun e u' w' => e = .returned (.tuple #[]) ∧ u' = .returning ∧ w' = W := by
 refine callsD_of_wpS Try.func89 rfl fun c₀ cs hu => ?_
 apply wpS_seq
 apply wpS_region
 simp [wpOpsS, go_sem, recoverD, hu, Try.ntmps89, Exit.thenS]
 apply wpS_seq
 apply wpS_region
 simp [wpOpsS, go_sem, recoverD, hu, Exit.thenS]
 refine wpS_cond (t := false) (by simp [Act.eval, Array.replicate]) ?_
 simp only [Bool.false_eq_true, if_false]
 refine wpS_of_wp (wp_skip ?_)
 cases c₀
 simp_all [bodyPostS, results, Try.results89]
theorem more_any (t : Int) : Calls Try.prog 58 #[.int .i64 t] W fun e W' => e = .returned (.bool true) ∧ W = W' := by
 go_enter Try.func58, Try.ntmps58
 go_wp2
 go_ret
 exact ⟨rfl, rfl⟩
def EndR (w : World) (S : Sys) (A : Option Addr) (c : Nat) (R : Option Addr) (d : Nat) (y : Ly) (Lr : List Ent) (X : RunP) (e : Ending) (W' : World) : Prop := e = .returned (.tuple #[.int .i64 X.fin, .int .i64 X.fault]) ∧ InW w W' S A c R d y Lr X.P
theorem run_door {S : Sys} {A : Option Addr} {c : Nat} {R : Option Addr} {d : Nat} {y : Ly} {Lr : List Ent} {X : RunP} {a : Act} (hd : a.defers = [{ target := Target.fn (Fn.func 89) #[.pointer (some ⟨e6, 0, none⟩), .pointer (some ⟨e7, 0, none⟩)], args := #[] }])
   (h6 : a.tmps[6]? = some (.pointer (some ⟨e6, 0, none⟩))) (h7 : a.tmps[7]? = some (.pointer (some ⟨e7, 0, none⟩))) (h : InW w W S A c R d y ((e7, 22, #[Value.int .i64 X.fault]) :: (e6, 3, #[Value.int .i64 X.fin]) :: Lr) X.P) :
   bodyPostD Try.prog Try.f57 (EndR w S A c R d y Lr X) .ret a W := by
 unfold bodyPostD
 simp only [hd]
 refine leaves_cons (f := 89) (args := #[.pointer (some ⟨e6, 0, none⟩), .pointer (some ⟨e7, 0, none⟩)]) (by simp) (by simp [go_sem]) ?_
 refine catch_idle.mono ?_
 rintro e u' w'' ⟨rfl, rfl, rfl⟩
 obtain ⟨gw, cw, cur, evs, hv, M, hC, q1, q2, q3⟩ := h
 have c6 := (M.get 8 rfl).cell 0
 have c7 := (M.get 7 rfl).cell 0
 refine ⟨_, ?_, rfl, gw, cw, cur, evs, hv, (M.perm (List.perm_append_comm_assoc [_, _] [_, _, _, _, _, _, _] Lr)).drop_ 2, hC, q1, q2, q3⟩
 clear M hC q1 q2 q3
 simp [results, Try.results57, h6, h7, c6, c7, go_sem]
theorem run_panic {S : Sys} {A : Option Addr} {c : Nat} {R : Option Addr} {d : Nat} {y : Ly} {Lr : List Ent} {X : RunP} {a : Act} (hd : a.defers = [{ target := Target.fn (Fn.func 89) #[.pointer (some ⟨e6, 0, none⟩), .pointer (some ⟨e7, 0, none⟩)], args := #[] }])
   (h6 : a.tmps[6]? = some (.pointer (some ⟨e6, 0, none⟩))) (h7 : a.tmps[7]? = some (.pointer (some ⟨e7, 0, none⟩))) (h : InW w W S A c R d y ((e7, 22, #[Value.int .i64 0]) :: (e6, 3, #[Value.int .i64 0]) :: Lr) X.P) (h3 : X.fin = 3) :
   bodyPostD Try.prog Try.f57 (EndR w S A c R d y Lr X) (.panic [{ v := .iface 22 (.int .i64 X.fault), recovered := false }]) a W := by
 unfold bodyPostD
 simp only [hd]
 obtain ⟨gw, cw, cur, evs, hv, M, hC, q1, q2, q3⟩ := h
 refine leaves_cons (f := 89) (args := #[.pointer (some ⟨e6, 0, none⟩), .pointer (some ⟨e7, 0, none⟩)]) (by simp) (by simp [go_sem]) ?_
 refine (catch_panicking X.fault [] 8 7 M rfl rfl (by decide)).mono ?_
 rintro e u' w'' ⟨rfl, rfl, M⟩
 have c6 := (M.get 8 rfl).cell 0
 have c7 := (M.get 7 rfl).cell 0
 refine ⟨_, ?_, rfl, gw, cw, cur, evs, hv, (M.perm (List.perm_append_comm_assoc [_, _] [_, _, _, _, _, _, _] Lr)).drop_ 2, hC, q1, q2, q3⟩
 clear M hC q1 q2 q3
 simp [results, Try.results57, h6, h7, c6, c7, go_sem]
 exact h3.symm
set_option maxRecDepth 100000 in
set_option maxHeartbeats 4000000 in
theorem run_any {S : Sys} {A : Option Addr} {c : Nat} {R : Option Addr} {d : Nat} {y : Ly} {Lr : List Ent} {picks : List Int} {pv : Value} (h : InW w W S A c R d y Lr begunP) (hS : SysIn w S A c R d) (hvd : validB S = true) (hlk : S.lk = (y.lk : Int)) (hgr : S.gr = (y.gr : Int)) (hce : S.ce = (y.ce : Int)) (hp : IntL w pv picks) :
   Calls Try.prog 57 #[.pointer (some ⟨y.wp, 0, none⟩), pv, .func (.func 58) #[] #[]] W (EndR w S A c R d y Lr (playP S picks)) := by
 have hmf := kf3
 obtain ⟨Ap, cp, rfl, hpc⟩ := hp
 have HP := Lib.hid hpc
 have HS := Lib.hid hS
 have HV := Lib.hid hvd
 have HY := Lib.hid (And.intro hlk (And.intro hgr hce))
 have h0 : (0 : Nat) < S.np := by
   have := ((headB_iff S).1 ((validB_iff S).1 hvd).1).1
   omega
 have HR0 := Lib.hid (show RInv S begunP from fun k _ => h0)
 have HX0 := Lib.hid (show runP S picks 40001 0 begunP = playP S picks from rfl)
 generalize playP S picks = X at *
 obtain ⟨gw, cw, cur, evs, hv, M, hC, q1, q2, q3⟩ := h
 have HC := Lib.hid (And.intro hC (And.intro q1 (And.intro q2 q3)))
 clear hpc hS hvd hlk hgr hce hC q1 q2 q3 h0
 go_enter_defers Try.func57, Try.ntmps57
 go_wp2_with (first
   | go_big_skip
   | (refine om_alloc1 6 (.int .i64 0) M rfl rfl rfl (fun _ => by kernel_rfl) rfl ?_; clear M; intro V e6 M; simp only [Act.put, kA, kZ, kS])
   | (refine om_alloc1 7 (.int .i64 0) M rfl rfl rfl (fun _ => by kernel_rfl) rfl ?_; clear M; intro V e7 M; simp only [Act.put, kA, kZ, kS]))
 have H0 : InW w V S A c R d y ((e7, 22, #[Value.int .i64 0]) :: (e6, 3, #[Value.int .i64 0]) :: Lr) begunP := ⟨gw, cw, cur, evs, hv, M.perm (List.perm_append_comm_assoc [_, _, _, _, _, _, _] [_, _] Lr), HC.out.1, HC.out.2.1, HC.out.2.2.1, HC.out.2.2.2⟩
 clear M HC
 go_loopw [8] (fun i wr => ∃ t P, i = .int .i64 (t : Nat) ∧ t ≤ 40000 ∧ InW w wr S A c R d y ((e7, 22, #[Value.int .i64 0]) :: (e6, 3, #[Value.int .i64 0]) :: Lr) P ∧ RInv S P ∧ P.ev.length = t ∧ P.n ≤ t + 1 ∧ (∀ c, (P.held c).length ≤ t) ∧ runP S picks (40001 - t) t P = X) (fun i _ => 40001 - (intOf i).toNat)
 case atStart => exact ⟨0, begunP, rfl, by omega, H0, HR0.out, rfl, Nat.le_refl _, fun c => Nat.le_refl _, HX0.out⟩
 case round =>
   clear H0 HR0 HX0
   obtain ⟨t, P, rfl, ht, H, hR, hev, hnn, hheld, hrun⟩ := hrel
   have HH := Lib.hid H
   obtain ⟨gw, cw, cur, evs, hv, M, hC, q1, q2, q3⟩ := H
   have HSE := Lib.hid (show Sees w.heap.size wr S A c R d y P gw cw cur evs hv from ⟨M.get 0 rfl, M.get 1 rfl, M.get 2 rfl, M.get 3 rfl, M.get 4 rfl, M.get 6 rfl, HS.out.kept M.own.keep, hC, M.hr⟩)
   have HRD := Lib.hid (ready_any HSE.out HV.out hR HY.out.1 HY.out.2.1 (by omega))
   have hlen : (readyI S P P.n).length = (readyN S P P.n).length := by simp [readyI]
   have HLEN := Lib.hid (readyI_length S P P.n)
   have HRU := Lib.hid hrun
   have HRI := Lib.hid hR
   have HEV := Lib.hid (And.intro hev (And.intro hnn hheld))
   have HQ := Lib.hid (And.intro hC (And.intro q1 (And.intro q2 q3)))
   have HT := Lib.hid ht
   have g0 : (0 : Int) ≤ t := by omega
   have e40 : 40001 - t = (40000 - t) + 1 := by omega
   clear hC q1 q2 q3 hR hrun hnn hev hheld
   by_cases hend : endedN S P P.n = true
   · have HXX := Lib.hid (show X = ⟨1, 0, P⟩ by rw [← HRU.out, e40]; unfold runP; simp [hend])
     rw [hend] at HRD
     clear hend
     go_wp2_with (first
       | go_big_skip
       | (go_at_call 90; refine HRD.out.mono ?_; rintro e V ⟨⟨v, rfl, hMi⟩, K⟩; replace M := M.keeps K; obtain ⟨Al, cl, rfl, hl⟩ := hMi.list; have HL := Lib.hid hl; clear hl hMi K)
       | (refine at_store (.tmp 6) (.const (.int .i64 1)) rfl ?_; refine om_store 8 0 (.int .i64 1) (.tmp 6) (.const (.int .i64 1)) M rfl rfl rfl rfl rfl rfl (by decide) rfl rfl (by kernel_rfl) rfl ?_; clear M; intro V M; simp only [kZ, kS] at M)
       | (refine at_store (.tmp 7) (.const (.int .i64 0)) rfl ?_; refine om_store 7 0 (.int .i64 0) (.tmp 7) (.const (.int .i64 0)) M rfl rfl rfl rfl rfl rfl (by decide) rfl rfl (by kernel_rfl) rfl ?_; clear M; intro V M; simp only [kZ, kS] at M))
     refine run_door rfl rfl rfl ?_
     rw [HXX.out]
     exact ⟨gw, cw, cur, evs, hv, M, HQ.out.1, HQ.out.2.1, HQ.out.2.2.1, HQ.out.2.2.2⟩
   · have hend : endedN S P P.n = false := by simpa using hend
     have HEN := Lib.hid hend
     rw [hend] at HRD
     clear hend
     by_cases h4 : 40000 ≤ t
     · have HXX := Lib.hid (show X = ⟨4, 0, P⟩ by rw [← HRU.out, e40]; unfold runP; simp [HEN.out, h4])
       have g1 : (40000 : Int) ≤ t := by omega
       clear h4
       go_wp2_with (first
         | go_big_skip
         | (go_at_call 90; refine HRD.out.mono ?_; rintro e V ⟨⟨v, rfl, hMi⟩, K⟩; replace M := M.keeps K; obtain ⟨Al, cl, rfl, hl⟩ := hMi.list; have HL := Lib.hid hl; clear hl hMi K)
         | (refine at_store (.tmp 6) (.const (.int .i64 4)) rfl ?_; refine om_store 8 0 (.int .i64 4) (.tmp 6) (.const (.int .i64 4)) M rfl rfl rfl rfl rfl rfl (by decide) rfl rfl (by kernel_rfl) rfl ?_; clear M; intro V M; simp only [kZ, kS] at M)
         | (refine at_store (.tmp 7) (.const (.int .i64 0)) rfl ?_; refine om_store 7 0 (.int .i64 0) (.tmp 7) (.const (.int .i64 0)) M rfl rfl rfl rfl rfl rfl (by decide) rfl rfl (by kernel_rfl) rfl ?_; clear M; intro V M; simp only [kZ, kS] at M))
       refine run_door rfl rfl rfl ?_
       rw [HXX.out]
       exact ⟨gw, cw, cur, evs, hv, M, HQ.out.1, HQ.out.2.1, HQ.out.2.2.1, HQ.out.2.2.2⟩
     · have g1 : decide ((40000 : Int) ≤ t) = false := by simp; omega
       have HH4 := Lib.hid h4
       clear h4
       by_cases hr0 : readyN S P P.n = []
       · have HXX := Lib.hid (show X = ⟨2, 0, P⟩ by rw [← HRU.out, e40]; unfold runP; simp [HEN.out, HH4.out, hr0])
         rw [show readyI S P P.n = [] by simp [readyI, hr0]] at HRD
         clear hr0 HLEN hlen
         go_wp2_with (first
           | go_big_skip
           | (go_at_call 90; refine HRD.out.mono ?_; rintro e V ⟨⟨v, rfl, hMi⟩, K⟩; replace M := M.keeps K; obtain ⟨Al, cl, rfl, hl⟩ := hMi.list; have HL := Lib.hid hl; clear hl hMi K)
           | (refine at_store (.tmp 6) (.const (.int .i64 2)) rfl ?_; refine om_store 8 0 (.int .i64 2) (.tmp 6) (.const (.int .i64 2)) M rfl rfl rfl rfl rfl rfl (by decide) rfl rfl (by kernel_rfl) rfl ?_; clear M; intro V M; simp only [kZ, kS] at M)
           | (refine at_store (.tmp 7) (.const (.int .i64 0)) rfl ?_; refine om_store 7 0 (.int .i64 0) (.tmp 7) (.const (.int .i64 0)) M rfl rfl rfl rfl rfl rfl (by decide) rfl rfl (by kernel_rfl) rfl ?_; clear M; intro V M; simp only [kZ, kS] at M))
         refine run_door rfl rfl rfl ?_
         rw [HXX.out]
         exact ⟨gw, cw, cur, evs, hv, M, HQ.out.1, HQ.out.2.1, HQ.out.2.2.1, HQ.out.2.2.2⟩
       · obtain ⟨hk, f, hI, hcan⟩ := picked S P picks t hr0
         have hm0 : 0 < (readyN S P P.n).length := List.length_pos_iff.2 hr0
         have hpl := pickP_lt picks t _ hm0
         have HXX := Lib.hid (show X = (if (stepP S P ((readyN S P P.n).getD (pickP picks t (readyN S P P.n).length) 0) f).2 = 0 then runP S picks (40000 - t) (t + 1) (stepP S P ((readyN S P P.n).getD (pickP picks t (readyN S P P.n).length) 0) f).1 else ⟨3, (stepP S P ((readyN S P P.n).getD (pickP picks t (readyN S P P.n).length) 0) f).2, (stepP S P ((readyN S P P.n).getD (pickP picks t (readyN S P P.n).length) 0) f).1⟩) by rw [← HRU.out, e40]; conv => lhs; unfold runP; simp only [HEN.out, HH4.out, hr0, hI, if_false, Bool.false_eq_true])
         have hgk : (readyI S P P.n).getD (pickP picks t (readyN S P P.n).length) 0 = (((readyN S P P.n).getD (pickP picks t (readyN S P P.n).length) 0 : Nat) : Int) := by
           unfold readyI
           rw [List.getD_eq_getElem?_getD, List.getD_eq_getElem?_getD, List.getElem?_map, List.getElem?_eq_getElem hpl]
           rfl
         have hev1 : (stepP S P ((readyN S P P.n).getD (pickP picks t (readyN S P P.n).length) 0) f).1.ev.length = t + 1 := by
           obtain ⟨e, he⟩ := stepP_ev S P ((readyN S P P.n).getD (pickP picks t (readyN S P P.n).length) 0) f
           rw [he, List.length_append, HEV.out.1]
           rfl
         have hsm := stepP_small S P ((readyN S P P.n).getD (pickP picks t (readyN S P P.n).length) 0) f
         have hri := stepP_rinv S P _ f HRI.out hk (right_of HV.out (HRI.out _ hk) hI)
         have hpk : ∀ x, picks[t]? = some x → (wrap64 (x.tmod ((readyN S P P.n).length : Int) + ((readyN S P P.n).length : Int))).tmod ((readyN S P P.n).length : Int) = ((pickP picks t (readyN S P P.n).length : Nat) : Int) := fun x hx => by
           rw [mod_twice' x _ hm0 (by have := HLEN.out; have := HEV.out; omega)]
           unfold pickP
           rw [hx]
           have := Int.emod_nonneg x (b := ((readyN S P P.n).length : Int)) (by omega)
           show x % _ = ((x % _).toNat : Int)
           omega
         have hp0 : picks.length ≤ t → pickP picks t (readyN S P P.n).length = 0 := fun h => by
           unfold pickP
           rw [List.getElem?_eq_none h]
         generalize (readyN S P P.n).getD (pickP picks t (readyN S P P.n).length) 0 = k at *
         generalize pickP picks t (readyN S P P.n).length = p at *
         rw [← hlen] at hm0 hpl hpk
         generalize readyI S P P.n = rl at *
         clear hlen hr0 HRU
         have HST := Lib.hid (fun V (H : InW w V S A c R d y ((e7, 22, #[Value.int .i64 0]) :: (e6, 3, #[Value.int .i64 0]) :: Lr) P) => step_any H HS.out HV.out HRI.out hk hI HY.out.1 HY.out.2.1 HY.out.2.2 (by have := HEV.out.1; omega) (fun c => by have := HEV.out.2.2 c; omega))
         have HNX := Lib.hid (And.intro hev1 (And.intro hsm hri))
         have HPK := Lib.hid hpk
         have HP0 := Lib.hid hp0
         have HGK := Lib.hid hgk
         clear hk hI hcan hgk hev1 hsm hri hpk hp0
         generalize stepP S P k f = sp at HST HNX HXX
         generalize hm : rl.length = m at *
         have g2 : ¬ ((m : Int) = 0) := by omega
         have g5 : (p : Int) < m := by omega
         have g6 : (0 : Int) ≤ p := by omega
         have HM0 := Lib.hid (And.intro hm hpl)
         clear hm0 hpl hm
         by_cases hz : sp.2 = 0
         · have HST0 := Lib.hid (show ∀ V, InW w V S A c R d y ((e7, 22, #[Value.int .i64 0]) :: (e6, 3, #[Value.int .i64 0]) :: Lr) P → Calls Try.prog 91 #[.pointer (some ⟨y.wp, 0, none⟩), .int .i64 (k : Int)] V fun e W' => e = .returned (.tuple #[]) ∧ InW w W' S A c R d y ((e7, 22, #[Value.int .i64 0]) :: (e6, 3, #[Value.int .i64 0]) :: Lr) sp.1 from fun V H => (HST.out V H).mono fun e W' h => ⟨by rw [h.2, hz]; rfl, h.1⟩)
           have HZ := Lib.hid (show X = runP S picks (40000 - t) (t + 1) sp.1 by rw [HXX.out, if_pos hz])
           clear hz
           by_cases htp : t < picks.length
           · have g7 : (t : Int) < picks.length := by omega
             obtain ⟨adp, rfl, hbp, hcp⟩ := HP.out (by omega)
             have hpx := HPK.out (picks.getD t 0) (by rw [List.getD_eq_getElem?_getD, List.getElem?_eq_getElem htp]; rfl)
             have HCP := Lib.hid (show ∀ V, Keeps w V [] → V.cell? (adp.add t) = some (.int .i64 (picks.getD t 0)) from fun V K => (K.cellAt (by rw [add_block]; exact hbp) (by simp)).trans (hcp t htp))
             generalize picks.getD t 0 = x at hpx HCP
             clear hbp hcp htp
             go_wp2_with (first
               | go_big_skip
               | (go_at_call 90; refine HRD.out.mono ?_; rintro e V ⟨⟨v, rfl, hMi⟩, K⟩; replace M := M.keeps K; obtain ⟨Al, cl, rfl, hl⟩ := hMi.list; obtain ⟨ad, rfl, hb, hc⟩ := hl (by have := HM0.out; omega); have ck : V.cell? (ad.add p) = some (.int .i64 (k : Int)) := (hc p (by have := HM0.out; omega)).trans (by rw [HGK.out]); rw [HM0.out.1]; clear hl hMi K hb hc; have cP := HCP.out V M.own.keep)
               | (go_at_call 58; refine (more_any _).mono ?_; rintro e V' ⟨rfl, rfl⟩)
               | (go_at_call 91; refine (HST0.out _ ⟨gw, cw, cur, evs, hv, M, HQ.out.1, HQ.out.2.1, HQ.out.2.2.1, HQ.out.2.2.2⟩).mono ?_; rintro e V' ⟨rfl, H'⟩; have HI' := Lib.hid H'; clear H' M ck))
             go_roundw
             case rel => exact ⟨t + 1, sp.1, by go_num, by have := HH4.out; omega, HI'.out, HNX.out.2.2, HNX.out.1, by have := HNX.out.2.1.1; have := HEV.out; omega, fun c => by have := HNX.out.2.1.2 c; have := HEV.out.2.2 c; omega, by rw [show 40001 - (t + 1) = 40000 - t by omega]; exact HZ.out.symm⟩
             case measure => (simp [intOf] <;> omega)
           · have g7 : ¬ (t : Int) < picks.length := by omega
             have hp00 := HP0.out (by omega)
             subst hp00
             clear htp
             go_wp2_with (first
               | go_big_skip
               | (go_at_call 90; refine HRD.out.mono ?_; rintro e V ⟨⟨v, rfl, hMi⟩, K⟩; replace M := M.keeps K; obtain ⟨Al, cl, rfl, hl⟩ := hMi.list; obtain ⟨ad, rfl, hb, hc⟩ := hl (by have := HM0.out; omega); have ck : V.cell? ad = some (.int .i64 (k : Int)) := (by have h0 := (hc 0 (by have := HM0.out; omega)).trans (by rw [HGK.out]); rwa [Addr.add_zero'] at h0); rw [HM0.out.1]; clear hl hMi K hb hc)
               | (go_at_call 58; refine (more_any _).mono ?_; rintro e V' ⟨rfl, rfl⟩)
               | (go_at_call 91; refine (HST0.out _ ⟨gw, cw, cur, evs, hv, M, HQ.out.1, HQ.out.2.1, HQ.out.2.2.1, HQ.out.2.2.2⟩).mono ?_; rintro e V' ⟨rfl, H'⟩; have HI' := Lib.hid H'; clear H' M ck))
             go_roundw
             case rel => exact ⟨t + 1, sp.1, by go_num, by have := HH4.out; omega, HI'.out, HNX.out.2.2, HNX.out.1, by have := HNX.out.2.1.1; have := HEV.out; omega, fun c => by have := HNX.out.2.1.2 c; have := HEV.out.2.2 c; omega, by rw [show 40001 - (t + 1) = 40000 - t by omega]; exact HZ.out.symm⟩
             case measure => (simp [intOf] <;> omega)
         · have HST0 := Lib.hid (show ∀ V, InW w V S A c R d y ((e7, 22, #[Value.int .i64 0]) :: (e6, 3, #[Value.int .i64 0]) :: Lr) P → Calls Try.prog 91 #[.pointer (some ⟨y.wp, 0, none⟩), .int .i64 (k : Int)] V fun e W' => e = .panicked [{ v := .iface 22 (.int .i64 sp.2), recovered := false }] ∧ InW w W' S A c R d y ((e7, 22, #[Value.int .i64 0]) :: (e6, 3, #[Value.int .i64 0]) :: Lr) sp.1 from fun V H => (HST.out V H).mono fun e W' h => ⟨by rw [h.2]; unfold stepEnd; rw [if_neg hz], h.1⟩)
           have HZ := Lib.hid (show X = ⟨3, sp.2, sp.1⟩ by rw [HXX.out, if_neg hz])
           clear hz
           by_cases htp : t < picks.length
           · have g7 : (t : Int) < picks.length := by omega
             obtain ⟨adp, rfl, hbp, hcp⟩ := HP.out (by omega)
             have hpx := HPK.out (picks.getD t 0) (by rw [List.getD_eq_getElem?_getD, List.getElem?_eq_getElem htp]; rfl)
             have HCP := Lib.hid (show ∀ V, Keeps w V [] → V.cell? (adp.add t) = some (.int .i64 (picks.getD t 0)) from fun V K => (K.cellAt (by rw [add_block]; exact hbp) (by simp)).trans (hcp t htp))
             generalize picks.getD t 0 = x at hpx HCP
             clear hbp hcp htp
             go_wp2_with (first
               | go_big_skip
               | (go_at_call 90; refine HRD.out.mono ?_; rintro e V ⟨⟨v, rfl, hMi⟩, K⟩; replace M := M.keeps K; obtain ⟨Al, cl, rfl, hl⟩ := hMi.list; obtain ⟨ad, rfl, hb, hc⟩ := hl (by have := HM0.out; omega); have ck : V.cell? (ad.add p) = some (.int .i64 (k : Int)) := (hc p (by have := HM0.out; omega)).trans (by rw [HGK.out]); rw [HM0.out.1]; clear hl hMi K hb hc; have cP := HCP.out V M.own.keep)
               | (go_at_call 58; refine (more_any _).mono ?_; rintro e V' ⟨rfl, rfl⟩)
               | (go_at_call 91; refine (HST0.out _ ⟨gw, cw, cur, evs, hv, M, HQ.out.1, HQ.out.2.1, HQ.out.2.2.1, HQ.out.2.2.2⟩).mono ?_; rintro e V' ⟨rfl, H'⟩; have HI' := Lib.hid H'; clear H' M ck))
             rw [HZ.out]
             exact run_panic (X := ⟨3, sp.2, sp.1⟩) rfl rfl rfl HI'.out rfl
           · have g7 : ¬ (t : Int) < picks.length := by omega
             have hp00 := HP0.out (by omega)
             subst hp00
             clear htp
             go_wp2_with (first
               | go_big_skip
               | (go_at_call 90; refine HRD.out.mono ?_; rintro e V ⟨⟨v, rfl, hMi⟩, K⟩; replace M := M.keeps K; obtain ⟨Al, cl, rfl, hl⟩ := hMi.list; obtain ⟨ad, rfl, hb, hc⟩ := hl (by have := HM0.out; omega); have ck : V.cell? ad = some (.int .i64 (k : Int)) := (by have h0 := (hc 0 (by have := HM0.out; omega)).trans (by rw [HGK.out]); rwa [Addr.add_zero'] at h0); rw [HM0.out.1]; clear hl hMi K hb hc)
               | (go_at_call 58; refine (more_any _).mono ?_; rintro e V' ⟨rfl, rfl⟩)
               | (go_at_call 91; refine (HST0.out _ ⟨gw, cw, cur, evs, hv, M, HQ.out.1, HQ.out.2.1, HQ.out.2.2.1, HQ.out.2.2.2⟩).mono ?_; rintro e V' ⟨rfl, H'⟩; have HI' := Lib.hid H'; clear H' M ck))
             rw [HZ.out]
             exact run_panic (X := ⟨3, sp.2, sp.1⟩) rfl rfl rfl HI'.out rfl
end
open Go.RowKit Go.Maps Go.Deep
def runC (fin fault : Int) (evs : Value) (n : Nat) (cells : Value) : Array Value := #[.int .i64 fin, .int .i64 fault, evs, .int .i64 n, cells]
structure RunAt (w W : World) (S : Sys) (X : RunP) (evs cells : Value) : Prop where
 keep : Keeps w W []
 evr : W.ownsRow w.heap.size 37 5 evs X.P.ev.length (evL (lE X.P.ev) X.P.ev.length)
 cell : ∃ bc m, cells = .slice (some ⟨bc, 0, none⟩) m m ∧ S.ce = (m : Int) ∧ Blk W bc 3 (arrI m X.P.ce) ∧ w.heap.size ≤ bc
def PlayPost (w : World) (S : Sys) (picks : List Int) (e : Ending) (W : World) : Prop :=
 ∃ evs cells, e = .returned (.tuple #[.agg (runC (playP S picks).fin (playP S picks).fault evs (playP S picks).P.n cells), .int .i64 0]) ∧ RunAt w W S (playP S picks) evs cells
theorem Own.perm {w W : World} {L L' : List Ent} (O : Own w W [] L) (h : L'.Perm L) : Own w W [] L' := ⟨O.keep, fun q hq => O.blk q (h.mem_iff.1 hq), fun q hq => O.new q (h.mem_iff.1 hq), (h.map _).nodup_iff.2 O.nd⟩
section
variable {w W : World} {S : Sys} {A : Option Addr} {c : Nat} {R : Option Addr} {d : Nat} {picks : List Int} {pv : Value}
theorem InW.start {y : Ly} {Lr : List Ent} {gw : Nat} (O : Own w W [] ((y.wp, 110, wpC y S.nr gw 1 1 (.slice none 0 0)) :: (gw, 174, rnC ⟨0, 0, fun _ => 0⟩) :: (y.bp, 186, pipesA S.nr (fun _ => .slice none 0 0) (fun _ => false)) :: (y.bl, 4, arrB y.lk fun _ => false) :: (y.bg, 3, arrI y.gr fun _ => 0) :: (y.bc, 3, arrI y.ce fun _ => 0) :: (y.ps, 27, sysV S A c R d) :: Lr)) : InW w W S A c R d y Lr begunP := by
 refine ⟨gw, 1, rnC ⟨0, 0, fun _ => 0⟩, .slice none 0 0, fun _ => .slice none 0 0, ⟨O, World.ownsRow_nil _ _ _ _, fun c _ => HRow.nil _ _, fun q _ h => (by cases h), fun c _ q _ h => (by cases h), fun c c' _ _ _ g h => (by cases h)⟩, fun k hk f hf => ?_, Nat.le_refl _, by simp [maxLen], rfl⟩
 have hk1 : k < 1 := hk
 obtain rfl : k = 0 := by omega
 simp [begunP]
set_option maxRecDepth 100000 in
set_option maxHeartbeats 2000000 in
theorem play_good (hS : SysIn w S A c R d) (hv : validB S = true) (hp : IntL w pv picks) : Calls Try.prog 25 #[.agg (sysV S A c R d), pv] w (PlayPost w S picks) := by
 have O := Own.start w []
 have HV := Lib.hid (fun u (k : Keeps w u []) => show Calls Try.prog 21 #[.agg (sysV S A c R d)] u fun e w' => e = .returned (.int .i64 0) ∧ Keeps u w' [] from by have := valid_any (hS.kept k); rwa [validE_yes hv] at this)
 have hh := (headB_iff S).1 ((validB_iff S).1 hv).1
 have h3 := hh.2.2.2.1
 have h4 := hh.2.2.2.2.1
 have h5 := hh.2.2.2.2.2
 rw [shB_iff] at h3 h4 h5
 have hnr : S.nr ≤ 64 := hh.2.2.1
 obtain ⟨gr, hgr⟩ : ∃ m : Nat, S.gr = (m : Int) := ⟨S.gr.toNat, by omega⟩
 obtain ⟨lk, hlk⟩ : ∃ m : Nat, S.lk = (m : Int) := ⟨S.lk.toNat, by omega⟩
 obtain ⟨ce, hce⟩ : ∃ m : Nat, S.ce = (m : Int) := ⟨S.ce.toNat, by omega⟩
 have HB := Lib.hid (fun u ps (hB : Blk u ps 27 (sysV S A c R d)) => begun_any hB (by omega) hlk hgr hce (by omega) (by omega) (by omega))
 have HR := Lib.hid (fun u (y : Ly) (Lr : List Ent) (h : InW w u S A c R d y Lr begunP) (e1 : y.lk = lk) (e2 : y.gr = gr) (e3 : y.ce = ce) => run_any h hS hv (by rw [e1]; exact hlk) (by rw [e2]; exact hgr) (by rw [e3]; exact hce) hp)
 have HC := Lib.hid hce
 clear hS hv hp hh h3 h4 h5 hnr hgr hlk hce
 unfold PlayPost
 generalize playP S picks = X at *
 go_enter Try.func25, Try.ntmps25
 go_wp2_with (first
   | go_big_skip
   | (refine own_box 2 (sysV S A c R d) O rfl rfl rfl rfl ?_; clear O; intro W ps O; simp only [Act.put, kA, kZ, kS])
   | (refine own_alloc 4 (#[Value.int .i64 0, .int .i64 0, .slice none 0 0, .int .i64 0, .slice none 0 0]) O rfl rfl rfl (fun _ => by kernel_rfl) ?_; clear O; intro W a4 O; simp only [Act.put, kA, kZ, kS])
   | (refine own_load 10 1 O rfl rfl rfl rfl rfl Try.underlying27 rfl (by kernel_rfl) ?_; simp only [Act.put, kA, kZ, kS])
   | (go_at_call 21; refine (HV.out _ O.keep).mono ?_; rintro e W ⟨rfl, K⟩; replace O := O.keeps K; clear K)
   | (go_at_call 56; refine (HB.out _ ps (O.get 1 rfl)).mono ?_; rintro e W ⟨wp, gw, bp, bl, bg, bc, rfl, O1⟩; have HI := Lib.hid (InW.start (y := ⟨ps, wp, bp, bl, bg, bc, lk, gr, ce⟩) (Lr := [(a4, 33, #[Value.int .i64 0, .int .i64 0, .slice none 0 0, .int .i64 0, .slice none 0 0])]) ((O.join O1).perm (List.Perm.append_left [_, _, _, _, _, _] (List.Perm.swap _ _ [])))); clear O O1)
   | (go_at_call 57; refine (HR.out _ _ _ HI.out rfl rfl rfl).mono ?_; rintro e W ⟨rfl, HJ⟩; have HK := Lib.hid HJ; clear HJ HI))
 obtain ⟨gw, cw, cur, evs, hv, M, hC, q1, q2, q3⟩ := HK.out
 obtain ⟨Ae, ne, cE, rfl⟩ : ∃ A n c, evs = .slice A n c := by
   rcases M.evr.2 with ⟨h, _⟩ | ⟨g, cap, cur, h, _⟩
   · exact ⟨_, _, _, h⟩
   · exact ⟨_, _, _, h⟩
 have cw' : ∀ (p : Later W) i, p.1.cell? ⟨wp, i, none⟩ = #[Value.pointer (some ⟨ps, 0, none⟩), .slice (some ⟨gw, 0, none⟩) X.P.n cw, .slice (some ⟨bp, 0, none⟩) S.nr S.nr, .slice (some ⟨bl, 0, none⟩) lk lk, .slice (some ⟨bg, 0, none⟩) gr gr, .slice (some ⟨bc, 0, none⟩) ce ce, .slice Ae ne cE][i]? := Later.cell (M.get 0 rfl)
 clear HV HB HR HK hC q1 q2 q3
 refine wp_quiet_tail_later 15 (by kernel_rfl) (by kernel_rfl) ?_
 simp only [List.take, List.drop]
 repeat (first | go_big_quiet_skip | go_big_quiet_step (fail))
 refine kq fun p' => ?_
 replace M := M.keeps p'.2
 clear cw'
 generalize p'.1 = V at M ⊢
 go_wp2_with (first
   | (refine wpList_const 38 (.agg (runC X.fin X.fault (.slice Ae ne cE) X.P.n (.slice (some ⟨bc, 0, none⟩) ce ce))) rfl rfl (fun _ => by kernel_rfl) ?_; simp only [Act.put, kA, kZ, kS])
   | (refine om_store_row 7 (.tmp 4) (.tmp 38) (cs' := runC X.fin X.fault (.slice Ae ne cE) X.P.n (.slice (some ⟨bc, 0, none⟩) ce ce)) M rfl rfl rfl rfl rfl rfl (by kernel_rfl) (by rfl) ?_ ?_; rotate_left; clear M; intro V M; simp only [kZ, kS] at M)
   | go_big_skip)
 · refine bodyPost_ret (v := .tuple #[.agg (runC X.fin X.fault (.slice Ae ne cE) X.P.n (.slice (some ⟨bc, 0, none⟩) ce ce)), .int .i64 0]) (results_cell_tmp rfl _ _ a4 33 _ _ rfl (M.get 7 rfl) Try.underlying33 rfl (by kernel_rfl) _ rfl) rfl ⟨_, _, rfl, M.own.keep, M.evr, bc, ce, rfl, HC.out, M.get 5 rfl, ?_⟩
   rcases Nat.lt_or_ge bc w.heap.size with h | h
   · exact absurd (M.own.new _ (List.mem_of_getElem? (show _ = some _ from (rfl : _[5]? = _))) h) (by simp)
   · exact h
 · intro v hv'
   simp [runC] at hv'
   rcases hv' with rfl | rfl | rfl | rfl | rfl <;> rfl
end
open Go.RowKit Go.Maps Go.Deep
section
variable {w : World}
theorem RunAt.evs {w W : World} {S : Sys} {X : RunP} {evs cells : Value} (h : RunAt w W S X evs cells) : ∃ A c, evs = .slice A X.P.ev.length c ∧ EvsAt W A X.P.ev.length (lE X.P.ev) ∧ X.P.ev.length ≤ c ∧ c ≤ maxLen := by
 have hc := fun g hg j u hu => h.evr.cells (g := g) hg j u hu
 have hl := h.evr.lt
 rcases h.evr.2 with ⟨rfl, h0⟩ | ⟨g, cap, cur, rfl, _, hB, h1, h2, _⟩
 · rw [h0]
   exact ⟨none, 0, rfl, fun h => by omega, Nat.le_refl _, by simp [maxLen]⟩
 · refine ⟨_, cap, rfl, fun hn => ⟨_, rfl, (hl g rfl).2, fun i j hi hj => ?_⟩, h1, h2⟩
   rw [evC_getD _ _ hj]
   refine hc g rfl (i * 5 + j) _ ?_
   have hlt : i * 5 + j < X.P.ev.length * 5 := by omega
   simp only [evL, List.getElem?_map, List.getElem?_range hlt, Option.map_some]
   rw [show (i * 5 + j) / 5 = i by omega, show (i * 5 + j) % 5 = j by omega]
theorem RunAt.kept {w W u : World} {S : Sys} {X : RunP} {evs cells : Value} (h : RunAt w W S X evs cells) (k : Keeps W u []) : RunAt w u S X evs cells := by
 obtain ⟨h1, h2, bc, m, h3, h4, h5, h6⟩ := h
 exact ⟨h1.trans k (by simp), ownsRow_keeps h2 k (by simp), bc, m, h3, h4, h5.keeps k (by simp), h6⟩
theorem runC_cell (fin fault : Int) (evs : Value) (n : Nat) (cells : Value) (h : evs.oneCell' = true) (h' : cells.oneCell' = true) : ∀ v ∈ (runC fin fault evs n cells).toList, v.oneCell' = true := by
 intro v hv
 simp [runC] at hv
 rcases hv with rfl | rfl | rfl | rfl | rfl
 · rfl
 · rfl
 · exact h
 · rfl
 · exact h'
end
open Go.RowKit Go.Maps Go.Deep
def plV (x y : Int) : Array Value := #[.int .i64 x, .int .i64 y]
def plB (x y : Int) : Bool := decide (1 ≤ x ∧ x ≤ 256 ∧ 1 ≤ y ∧ y ≤ 1024)
def plE (x y : Int) : Int := if plB x y then 0 else 150
section
variable {w : World} {x y : Int}
set_option maxRecDepth 100000 in
theorem pvalid_any (x y : Int) : Calls Try.prog 49 #[.agg (plV x y)] w fun e u => e = .returned (.int .i64 (plE x y)) ∧ Keeps w u [] := by
 have O := Own.start w []
 by_cases h1 : x < 1
 · have hp : plE x y = 150 := by unfold plE plB; rw [decide_eq_false (by omega)]; rfl
   rw [hp]
   go_enter Try.func49, Try.ntmps49
   go_wp2_with (first
     | go_big_skip
     | (refine own_box 1 (plV x y) O rfl rfl rfl rfl ?_; clear O; intro W b1 O; simp only [Act.put, kA, kZ, kS]; have c0 : W.cell? ⟨b1, 0, none⟩ = some (.int .i64 x) := (O.get 0 rfl).cell 0; have c1 : W.cell? ⟨b1, 1, none⟩ = some (.int .i64 y) := (O.get 0 rfl).cell 1))
   go_returns
   exact ⟨rfl, O.keep⟩
 · by_cases h2 : 256 < x
   · have hp : plE x y = 150 := by unfold plE plB; rw [decide_eq_false (by omega)]; rfl
     rw [hp]
     go_enter Try.func49, Try.ntmps49
     go_wp2_with (first
       | go_big_skip
       | (refine own_box 1 (plV x y) O rfl rfl rfl rfl ?_; clear O; intro W b1 O; simp only [Act.put, kA, kZ, kS]; have c0 : W.cell? ⟨b1, 0, none⟩ = some (.int .i64 x) := (O.get 0 rfl).cell 0; have c1 : W.cell? ⟨b1, 1, none⟩ = some (.int .i64 y) := (O.get 0 rfl).cell 1))
     go_returns
     exact ⟨rfl, O.keep⟩
   · by_cases h3 : y < 1
     · have hp : plE x y = 150 := by unfold plE plB; rw [decide_eq_false (by omega)]; rfl
       rw [hp]
       go_enter Try.func49, Try.ntmps49
       go_wp2_with (first
         | go_big_skip
         | (refine own_box 1 (plV x y) O rfl rfl rfl rfl ?_; clear O; intro W b1 O; simp only [Act.put, kA, kZ, kS]; have c0 : W.cell? ⟨b1, 0, none⟩ = some (.int .i64 x) := (O.get 0 rfl).cell 0; have c1 : W.cell? ⟨b1, 1, none⟩ = some (.int .i64 y) := (O.get 0 rfl).cell 1))
       go_returns
       exact ⟨rfl, O.keep⟩
     · by_cases h4 : 1024 < y
       · have hp : plE x y = 150 := by unfold plE plB; rw [decide_eq_false (by omega)]; rfl
         rw [hp]
         go_enter Try.func49, Try.ntmps49
         go_wp2_with (first
           | go_big_skip
           | (refine own_box 1 (plV x y) O rfl rfl rfl rfl ?_; clear O; intro W b1 O; simp only [Act.put, kA, kZ, kS]; have c0 : W.cell? ⟨b1, 0, none⟩ = some (.int .i64 x) := (O.get 0 rfl).cell 0; have c1 : W.cell? ⟨b1, 1, none⟩ = some (.int .i64 y) := (O.get 0 rfl).cell 1))
         go_returns
         exact ⟨rfl, O.keep⟩
       · have hp : plE x y = 0 := by unfold plE plB; rw [decide_eq_true (by omega)]; rfl
         rw [hp]
         go_enter Try.func49, Try.ntmps49
         go_wp2_with (first
           | go_big_skip
           | (refine own_box 1 (plV x y) O rfl rfl rfl rfl ?_; clear O; intro W b1 O; simp only [Act.put, kA, kZ, kS]; have c0 : W.cell? ⟨b1, 0, none⟩ = some (.int .i64 x) := (O.get 0 rfl).cell 0; have c1 : W.cell? ⟨b1, 1, none⟩ = some (.int .i64 y) := (O.get 0 rfl).cell 1))
         go_returns
         exact ⟨rfl, O.keep⟩
set_option maxRecDepth 100000 in
theorem rpvalid_any (x y : Int) : Calls Try.prog 48 #[.agg (plV x y)] w fun e u => e = .returned (.int .i64 (plE x y)) ∧ Keeps w u [] := by
 have O := Own.start w []
 by_cases h1 : x < 1
 · have hp : plE x y = 150 := by unfold plE plB; rw [decide_eq_false (by omega)]; rfl
   rw [hp]
   go_enter Try.func48, Try.ntmps48
   go_wp2_with (first
     | go_big_skip
     | (refine own_box 1 (plV x y) O rfl rfl rfl rfl ?_; clear O; intro W b1 O; simp only [Act.put, kA, kZ, kS]; have c0 : W.cell? ⟨b1, 0, none⟩ = some (.int .i64 x) := (O.get 0 rfl).cell 0; have c1 : W.cell? ⟨b1, 1, none⟩ = some (.int .i64 y) := (O.get 0 rfl).cell 1))
   go_returns
   exact ⟨rfl, O.keep⟩
 · by_cases h2 : 256 < x
   · have hp : plE x y = 150 := by unfold plE plB; rw [decide_eq_false (by omega)]; rfl
     rw [hp]
     go_enter Try.func48, Try.ntmps48
     go_wp2_with (first
       | go_big_skip
       | (refine own_box 1 (plV x y) O rfl rfl rfl rfl ?_; clear O; intro W b1 O; simp only [Act.put, kA, kZ, kS]; have c0 : W.cell? ⟨b1, 0, none⟩ = some (.int .i64 x) := (O.get 0 rfl).cell 0; have c1 : W.cell? ⟨b1, 1, none⟩ = some (.int .i64 y) := (O.get 0 rfl).cell 1))
     go_returns
     exact ⟨rfl, O.keep⟩
   · by_cases h3 : y < 1
     · have hp : plE x y = 150 := by unfold plE plB; rw [decide_eq_false (by omega)]; rfl
       rw [hp]
       go_enter Try.func48, Try.ntmps48
       go_wp2_with (first
         | go_big_skip
         | (refine own_box 1 (plV x y) O rfl rfl rfl rfl ?_; clear O; intro W b1 O; simp only [Act.put, kA, kZ, kS]; have c0 : W.cell? ⟨b1, 0, none⟩ = some (.int .i64 x) := (O.get 0 rfl).cell 0; have c1 : W.cell? ⟨b1, 1, none⟩ = some (.int .i64 y) := (O.get 0 rfl).cell 1))
       go_returns
       exact ⟨rfl, O.keep⟩
     · by_cases h4 : 1024 < y
       · have hp : plE x y = 150 := by unfold plE plB; rw [decide_eq_false (by omega)]; rfl
         rw [hp]
         go_enter Try.func48, Try.ntmps48
         go_wp2_with (first
           | go_big_skip
           | (refine own_box 1 (plV x y) O rfl rfl rfl rfl ?_; clear O; intro W b1 O; simp only [Act.put, kA, kZ, kS]; have c0 : W.cell? ⟨b1, 0, none⟩ = some (.int .i64 x) := (O.get 0 rfl).cell 0; have c1 : W.cell? ⟨b1, 1, none⟩ = some (.int .i64 y) := (O.get 0 rfl).cell 1))
         go_returns
         exact ⟨rfl, O.keep⟩
       · have hp : plE x y = 0 := by unfold plE plB; rw [decide_eq_true (by omega)]; rfl
         rw [hp]
         go_enter Try.func48, Try.ntmps48
         go_wp2_with (first
           | go_big_skip
           | (refine own_box 1 (plV x y) O rfl rfl rfl rfl ?_; clear O; intro W b1 O; simp only [Act.put, kA, kZ, kS]; have c0 : W.cell? ⟨b1, 0, none⟩ = some (.int .i64 x) := (O.get 0 rfl).cell 0; have c1 : W.cell? ⟨b1, 1, none⟩ = some (.int .i64 y) := (O.get 0 rfl).cell 1))
         go_returns
         exact ⟨rfl, O.keep⟩
set_option maxRecDepth 100000 in
theorem pbuffers_any (x y : Int) : Calls Try.prog 83 #[.agg (plV x y)] w fun e u => e = .returned (.tuple #[.int .i64 (if plB x y then min (y + x) 64 else 0), .int .i64 (plE x y)]) ∧ Keeps w u [] := by
 have O := Own.start w []
 have HV := Lib.hid (fun u => pvalid_any (w := u) x y)
 unfold plE at HV ⊢
 by_cases h : plB x y = true
 · rw [if_pos h] at HV
   have hb := h
   simp only [plB, decide_eq_true_eq] at hb
   obtain ⟨h1, h2, h3, h4⟩ := hb
   rw [if_pos h, if_pos h]
   go_enter Try.func83, Try.ntmps83
   go_wp2_with (first
     | go_big_skip
     | (refine own_box 1 (plV x y) O rfl rfl rfl rfl ?_; clear O; intro W b1 O; simp only [Act.put, kA, kZ, kS]; have c0 : W.cell? ⟨b1, 0, none⟩ = some (.int .i64 x) := (O.get 0 rfl).cell 0; have c1 : W.cell? ⟨b1, 1, none⟩ = some (.int .i64 y) := (O.get 0 rfl).cell 1)
     | (refine own_load 5 0 O rfl rfl rfl rfl rfl Try.underlying89 rfl (by kernel_rfl) ?_; simp only [Act.put, kA, kZ, kS])
     | (go_at_call 49; refine (HV.out _).mono ?_; rintro e W ⟨rfl, K⟩; replace O := O.keeps K; clear K c0 c1; have c0 : W.cell? ⟨b1, 0, none⟩ = some (.int .i64 x) := (O.get 0 rfl).cell 0; have c1 : W.cell? ⟨b1, 1, none⟩ = some (.int .i64 y) := (O.get 0 rfl).cell 1))
   go_returns
   exact ⟨rfl, O.keep⟩
 · rw [if_neg h] at HV
   rw [if_neg h, if_neg h]
   clear h
   go_enter Try.func83, Try.ntmps83
   go_wp2_with (first
     | go_big_skip
     | (refine own_box 1 (plV x y) O rfl rfl rfl rfl ?_; clear O; intro W b1 O; simp only [Act.put, kA, kZ, kS])
     | (refine own_load 5 0 O rfl rfl rfl rfl rfl Try.underlying89 rfl (by kernel_rfl) ?_; simp only [Act.put, kA, kZ, kS])
     | (go_at_call 49; refine (HV.out _).mono ?_; rintro e W ⟨rfl, K⟩; replace O := O.keeps K; clear K))
   go_returns
   exact ⟨rfl, O.keep⟩
def inC (op : Int) (xs : List Int) : Array Value := #[.int .i64 op, .int .i64 (xs.getD 0 0), .int .i64 (xs.getD 1 0), .int .i64 (xs.getD 2 0)]
def inF (op : Int) (xs : List Int) (q : Nat) : Array Value := #[.int .i64 op, .int .i64 (if 0 < q then xs.getD 0 0 else 0), .int .i64 (if 1 < q then xs.getD 1 0 else 0), .int .i64 (if 2 < q then xs.getD 2 0 else 0)]
set_option maxRecDepth 100000 in
set_option maxHeartbeats 2000000 in
theorem pin_any (op : Int) (v : Value) (xs : List Int) (hl : xs.length ≤ 3) (h : IntL w v xs) : Calls Try.prog 84 #[.int .i64 op, v] w fun e u => e = .returned (.agg (inC op xs)) ∧ Keeps w u [] := by
 have O := Own.start w []
 obtain ⟨A, c, rfl, hx⟩ := h
 obtain ⟨m, hm⟩ : ∃ m, m = xs.length := ⟨_, rfl⟩
 have HX := Lib.hid hx
 have HM := Lib.hid hm
 rw [← hm] at hl ⊢
 clear hx hm
 go_enter Try.func84, Try.ntmps84
 go_wp2_with (first
   | (refine own_alloc 4 (#[Value.int .i64 0, .int .i64 0, .int .i64 0, .int .i64 0]) O rfl rfl rfl (fun _ => by kernel_rfl) ?_; clear O; intro W b4 O; simp only [Act.put, kA, kZ, kS])
   | (refine own_alloc 5 (#[Value.int .i64 0, .int .i64 0, .int .i64 0, .int .i64 0]) O rfl rfl rfl (fun _ => by kernel_rfl) ?_; clear O; intro W b5 O; simp only [Act.put, kA, kZ, kS])
   | (refine own_store_rowK 0 (.tmp 5) (.tmp 9) (cs' := inF op xs 0) O rfl rfl rfl rfl rfl rfl (by kernel_rfl) (by rfl) (by simp [inF, Value.oneCell']) ?_; clear O; intro W2 O K2; simp only [kZ] at O; clear K2))
 go_loopg [12] m (fun g s12 wr => ∃ q, q ≤ m ∧ g = m - q ∧ s12 = .int .i64 (q : Int) ∧ Own w wr [] [(b5, 99, inF op xs q), (b4, 99, #[Value.int .i64 0, .int .i64 0, .int .i64 0, .int .i64 0])])
 case atStart => exact ⟨0, by omega, by omega, rfl, O⟩
 case round =>
   clear O
   obtain ⟨q, hq, hgq, rfl, O⟩ := hrel
   have HG := Lib.hid hgq
   clear hgq
   by_cases hlt : q < m
   · have g1 : (q : Int) < (m : Int) := by omega
     have g0 : (0 : Int) ≤ (q : Int) := by omega
     obtain ⟨ad, e1, hb, hc⟩ := HX.out (by have := HM.out; omega)
     subst e1
     have cq : wr.cell? (ad.add q) = some (.int .i64 (xs.getD q 0)) := by
       have h1 := hc q (by have := HM.out; omega)
       rw [O.keep.cellAt (by rw [add_block]; exact hb) (by simp)]
       exact h1
     clear hb hc
     match q, hlt, g1, g0, cq, O, HG with
     | 0, hlt, g1, g0, cq, O, HG =>
       rw [Addr.add_zero'] at cq
       have HI := Lib.hid (show (inF op xs 0).setIfInBounds 1 (.int .i64 (xs.getD 0 0)) = inF op xs 1 from rfl)
       generalize xs.getD 0 0 = z at cq HI
       go_wp2_with (first
         | (refine own_storeK 0 1 (.int .i64 z) (.tmp 23) (.tmp 22) O rfl rfl rfl rfl rfl rfl (by show 1 < 4; decide) rfl rfl (by kernel_rfl) HI.out ?_; clear O; intro W1 O K1; simp only [kZ] at O; clear K1 cq))
       go_roundg (m - 1)
       case measure => (have := HG.out; omega)
       case rel => exact ⟨1, by omega, by omega, by go_num, O⟩
     | 1, hlt, g1, g0, cq, O, HG =>
       have HI := Lib.hid (show (inF op xs 1).setIfInBounds 2 (.int .i64 (xs.getD 1 0)) = inF op xs 2 from rfl)
       rw [show ad.add 1 = ⟨ad.block, ad.off + 1, none⟩ by unfold Addr.add; simp] at cq
       generalize xs.getD 1 0 = z at cq HI
       go_wp2_with (first
         | (refine own_storeK 0 2 (.int .i64 z) (.tmp 27) (.tmp 26) O rfl rfl rfl rfl rfl rfl (by show 2 < 4; decide) rfl rfl (by kernel_rfl) HI.out ?_; clear O; intro W1 O K1; simp only [kZ] at O; clear K1 cq))
       go_roundg (m - 2)
       case measure => (have := HG.out; omega)
       case rel => exact ⟨2, by omega, by omega, by go_num, O⟩
     | 2, hlt, g1, g0, cq, O, HG =>
       have HI := Lib.hid (show (inF op xs 2).setIfInBounds 3 (.int .i64 (xs.getD 2 0)) = inF op xs 3 from rfl)
       rw [show ad.add 2 = ⟨ad.block, ad.off + 2, none⟩ by unfold Addr.add; simp] at cq
       generalize xs.getD 2 0 = z at cq HI
       go_wp2_with (first
         | (refine own_storeK 0 3 (.int .i64 z) (.tmp 19) (.tmp 18) O rfl rfl rfl rfl rfl rfl (by show 3 < 4; decide) rfl rfl (by kernel_rfl) HI.out ?_; clear O; intro W1 O K1; simp only [kZ] at O; clear K1 cq))
       go_roundg (m - 3)
       case measure => (have := HG.out; omega)
       case rel => exact ⟨3, by omega, by omega, by go_num, O⟩
     | q + 3, hlt, _, _, _, _, _ => omega
   · obtain rfl : q = m := by omega
     have HE := Lib.hid (show inF op xs q = inC op xs by
       have hq := HM.out
       match xs, hq with
       | [], hq => rw [show q = 0 from hq]; rfl
       | [_], hq => rw [show q = 1 from hq]; rfl
       | [_, _], hq => rw [show q = 2 from hq]; rfl
       | [_, _, _], hq => rw [show q = 3 from hq]; rfl
       | _ :: _ :: _ :: _ :: _, hq => simp at hq; omega)
     rw [HE.out] at O
     have g1 : ¬ (q : Int) < (q : Int) := by omega
     clear hlt
     go_wp2_with (first
       | (refine own_load 29 0 O rfl rfl rfl rfl rfl Try.underlying99 rfl (by kernel_rfl) ?_; simp only [Act.put, kA, kZ, kS])
       | (refine own_store_rowK 1 (.tmp 4) (.tmp 29) (cs' := inC op xs) O rfl rfl rfl rfl rfl rfl (by kernel_rfl) (by rfl) (by simp [inC, Value.oneCell']) ?_; clear O; intro W2 O K2; simp only [kZ, kS] at O; clear K2))
     refine bodyPost_ret (v := .agg (inC op xs)) (results_cell_row rfl _ _ b4 99 _ _ _ rfl (O.get 1 rfl) Try.underlying99 rfl (by kernel_rfl)) rfl ⟨rfl, O.keep⟩
end
open Go.RowKit Go.Maps Go.Deep
section
variable {P : Program} {ops : Array Oper} {Q : Exit → Act → World → Prop} {S : World → Prop} {n : Nat}
theorem ah_gen {σ : Type} {l : List Oper} (meas : σ → Nat) (LB : σ → Array Bool) (AS : σ → Act) (K : σ → World → Prop) (hS : ∀ s w, K s w → S w)
   (hne : ∀ s w, K s w → meas s ≠ 0 → Region.ready .any ops (LB s) ≠ [])
   (hstep : ∀ s w, K s w → ∀ i ∈ Region.ready .any ops (LB s), meas s ≠ 0 → i < n ∧ ∃ o, ops[i]? = some o ∧ ∀ K' : Exit → Act → World → Prop, (∀ s' u, K s' u → LB s' = (LB s).setIfInBounds i true → meas s = meas s' + 1 → wpList P ops K' [] (AS s') u) → wpList P ops K' [o] (AS s) w)
   (fin : ∀ s w, meas s = 0 → K s w → AH P ops Q S n l 0 (LB s) (AS s) w) :
   ∀ c s w, meas s = c → K s w → AH P ops Q S n l c (LB s) (AS s) w
 | 0, s, w, hc, hK => fin s w hc hK
 | c + 1, s, w, hc, hK => by
   intro hs hcb hn hsel inv
   refine ⟨hne s w hK (by omega), fun i hi => ?_⟩
   obtain ⟨hin, o, ho, hst⟩ := hstep s w hK i hi (by omega)
   refine ⟨hin, ?_⟩
   have inv' := inv.set hi hin
   have h := hst (BackA P ops Q S n l c ((LB s).setIfInBounds i true)) fun s' u hK' hL hm => by
     refine backA_intro (hS _ _ hK') ?_
     rw [← hL]
     exact ah_gen meas LB AS K hS hne hstep fin c s' u (by omega) hK'
   unfold wpList at h
   unfold wpOp
   simp only [ho]
   split
   · rename_i hw
     rw [if_pos hw] at h
     exact h.imp (fun h => wp_backA (Oper.wp_mono (fun a w hk => ⟨hk.1, hk.2 hs hcb hn hsel inv'⟩) h)) id
   · rename_i hw
     rw [if_neg hw] at h
     exact ⟨h.1, h.2 hs hcb hn hsel inv'⟩
theorem results_cell2 {fn : Func} {p q : Tmp} {ty : TypeId} (h : fn.results = #[.cell p ty, .tmp q]) (tmps : Array Value) (w : World) (g : Nat) (t : TypeId) (cs : Array Value) (fr : Nat × Nat) (d : TypeDesc)
   (hp : tmps.getD p undef = .pointer (some ⟨g, 0, none⟩)) (hg : w.heap[g]? = some (.cells cs t fr))
   (hu : P.underlying ty = some d) (hd : (match d with | .struct _ | .array _ _ => true | _ => false) = true) (hi : (P.info? ty).map (·.size) = some cs.size) :
   (results fn tmps).run P w = .ok (.tuple #[.agg cs, tmps.getD q undef]) w := by
 have hp' : tmps[p]?.getD undef = .pointer (some ⟨g, 0, none⟩) := by simpa using hp
 simp [results, h, hp', asAddr, run_loadVar_row w g t ty cs fr d hg hu hd hi]
end
theorem min_nat (x y : Nat) : min ((y : Int) + (x : Int)) 64 = ((min (y + x) 64 : Nat) : Int) := by omega
open Go.RowKit Go.Maps Go.Deep
theorem EvsAt.keptS {w u : World} {A : Option Addr} {n : Nat} {E : Nat → Ev} (h : EvsAt w A n E) (k : Keeps w u []) : EvsAt u A n E := h.kept k
open Go.RowKit Go.Maps Go.Deep
section
variable {ops : Array Oper} {rest : List Oper} {o : Oper} {a : Act} {w W : World} {Q : Exit → Act → World → Prop} {Sx : List Nat} {L : List Ent}
theorem own_litK (d T e len : Nat) (size : Nat) (z : Value) (parts : Array (Nat × Operand)) (cells : Array Value) (O : Own w W Sx L) (_hd : o.dst = some d) (hgd : o.guard = none) (ho : o.op = .buildSlice T len parts) (ht : Try.prog.underlying T = some (.slice e))
   (hi : (Try.prog.info? e).map (fun i => (i.zero, i.size)) = some (some z, size)) (h1 : ¬ len * size > 2 ^ 24) (h2 : ¬ len * size = 0)
   (hf : Instr.fill (fun i => some (i * size, size)) ((Array.range (len * size)).map (z.cells[· % z.cells.size]!)) (parts.map fun (i, x) => (i, a.eval x)).toList = some cells)
   (h : ∀ u g, Own w u Sx ((g, e, cells) :: L) → Keeps W u [] → W.heap.size ≤ g → wpList Try.prog ops Q rest (a.put o.dst (.slice (some ⟨g, 0, none⟩) len len)) u) : wpList Try.prog ops Q (o :: rest) a W := by
 obtain ⟨i, hi2, he⟩ := Option.map_eq_some_iff.1 hi
 simp only [Prod.mk.injEq] at he
 obtain ⟨hz, hs⟩ := he
 have k := (Keeps.refl W []).alloc (.cells cells e)
 refine wpList_buildSlice hgd T e len parts ho cells i z ht hi2 hz (by rw [hs]; exact h1) (by rw [hs]; exact h2) ?_ (h _ _ (O.add k (Blk.new _ _ _)) k (Nat.le_refl _))
 rw [hs]
 exact hf
end
open Go.RowKit Go.Maps Go.Deep
def lx (x : Int) : Nat → List Int
 | 0 => [0, 0]
 | 1 => [1, x]
 | 2 => [2, 1]
 | 3 => [0, 1, 5]
 | 4 => [0, 0, 9]
 | 5 => [0, 1]
 | 6 => [1]
 | 7 => [0, 2]
 | 8 => [0, 0, 3]
 | 9 => [2]
 | 10 => [3]
 | 11 => [1, 3, 14]
 | 12 => [1, 3]
 | 13 => [0, 0, 11]
 | 14 => []
 | _ => []
def cop : Nat → Int
 | 0 => 1
 | 1 => 1
 | 2 => 1
 | 3 => 3
 | 4 => 4
 | 5 => 10
 | 6 => 14
 | 7 => 2
 | 8 => 4
 | 9 => 14
 | 10 => 14
 | 11 => 6
 | 12 => 15
 | 13 => 4
 | 14 => 16
 | _ => 0
def litA (xs : List Int) : Array Value := (xs.map fun v => Value.int .i64 v).toArray
def slotL (g : Option Nat) (n : Nat) : Value := match g with | some g => .slice (some ⟨g, 0, none⟩) n n | none => undef
def callV (x : Int) (c k : Nat) : Value := if k < c then .agg (inC (cop k) (lx x k)) else undef
def sysA (J b x y : Int) (b3 b4 : Nat) (gs : Nat → Option Nat) (c : Nat) : Act := { tmps := #[Value.int .i64 J, .agg (plV x y), undef, .pointer (some ⟨b3, 0, none⟩), .pointer (some ⟨b4, 0, none⟩), .int .i64 0, .int .i64 b, .int .i64 0, undef, undef, undef, undef, .tuple #[.int .i64 b, .int .i64 0], .agg (plV x y), .tuple #[.int .i64 b, .int .i64 0], .int .i64 b, .int .i64 0, .int .i64 0, .bool false, undef, undef, .int .i64 J, .bool (decide (J < 0)), .bool (decide (J < 0)), .int .i64 J, .bool (decide (1024 < J)), .bool (decide (J < 0) || decide (1024 < J)), undef, slotL (gs 0) 2, callV x c 0, .pointer (some ⟨b3, 0, none⟩), .int .i64 x, slotL (gs 1) 2, callV x c 1, slotL (gs 2) 2, callV x c 2, slotL (gs 3) 3, callV x c 3, slotL (gs 4) 3, callV x c 4, slotL (gs 5) 2, callV x c 5, slotL (gs 6) 1, callV x c 6, slotL (gs 7) 2, callV x c 7, slotL (gs 8) 3, callV x c 8, slotL (gs 9) 1, callV x c 9, slotL (gs 10) 1, callV x c 10, slotL (gs 11) 3, callV x c 11, slotL (gs 12) 2, callV x c 12, slotL (gs 13) 3, callV x c 13, callV x c 14, undef, undef, undef, undef, undef, undef, undef, undef, undef, undef, undef, undef, undef, undef, undef, undef, undef, undef, undef, undef, undef, undef, undef, undef, undef, undef, undef, undef, undef, undef, undef, undef, undef, undef, undef, undef, undef, undef, undef, undef, undef, undef, undef, undef, undef, undef, undef, undef, undef, undef, undef, undef, undef, undef, undef, undef, undef, undef, undef, undef, undef, undef, undef, undef, undef, undef, undef, undef, undef, undef, undef, undef, undef, undef, undef, undef], defers := [] }
def sysL (gs : Nat → Option Nat) (c : Nat) : Array Bool := #[(gs 0).isSome, decide (0 < c), true, true, (gs 1).isSome, decide (1 < c), (gs 2).isSome, decide (2 < c), (gs 3).isSome, decide (3 < c), (gs 4).isSome, decide (4 < c), (gs 5).isSome, decide (5 < c), (gs 6).isSome, decide (6 < c), (gs 7).isSome, decide (7 < c), (gs 8).isSome, decide (8 < c), (gs 9).isSome, decide (9 < c), (gs 10).isSome, decide (10 < c), (gs 11).isSome, decide (11 < c), (gs 12).isSome, decide (12 < c), (gs 13).isSome, decide (13 < c), decide (14 < c), false, false]
def sysM (gs : Nat → Option Nat) (c : Nat) : Nat := ((List.range 14).filter fun j => !(gs j).isSome).length + (15 - c)
def sysZ : Array Value := #[Value.slice none 0 0, .slice none 0 0, .int .i64 0, .int .i64 0, .int .i64 0]
structure SysK (w0 : World) (x y : Int) (b3 b4 : Nat) (gs : Nat → Option Nat) (c : Nat) (w : World) : Prop where
 own : Own w0 w [] [(b4, 27, sysZ), (b3, 89, plV x y)]
 blk : ∀ j g, gs j = some g → j < 14 → Blk w g 3 (litA (lx x j))
 le : c ≤ 15
 done : ∀ k, k < c → k < 14 → (gs k).isSome = true
def depsL (o : Oper) : List Nat := (o.after.toList.filter fun e => Region.binds .any e).map fun e => e.on
theorem ready_dep {ops : Array Oper} {listed : Array Bool} {i : Nat} : i ∈ Region.ready .any ops listed ↔ listed.getD i true = false ∧ ∃ D, (ops.toList.map depsL)[i]? = some D ∧ ∀ j ∈ D, listed.getD j false = true := by
 rw [mem_ready]
 constructor
 · rintro ⟨h1, o, ho, h2⟩
   refine ⟨h1, depsL o, by rw [List.getElem?_map, Array.getElem?_toList, ho]; rfl, fun j hj => ?_⟩
   unfold depsL at hj
   obtain ⟨e, he, rfl⟩ := List.mem_map.1 hj
   obtain ⟨he1, he2⟩ := List.mem_filter.1 he
   exact h2 e (by simpa using he1) he2
 · rintro ⟨h1, D, hD, h2⟩
   rw [List.getElem?_map, Array.getElem?_toList, Option.map_eq_some_iff] at hD
   obtain ⟨o, ho, rfl⟩ := hD
   exact ⟨h1, o, ho, fun e he hb => h2 _ (List.mem_map.2 ⟨e, List.mem_filter.2 ⟨by simpa using he, hb⟩, rfl⟩)⟩
def sysD : List (List Nat) := [[], [0], [], [2], [3], [4, 1], [], [6, 5], [], [8, 7], [], [10, 9], [], [12, 11], [], [14, 13], [], [16, 15], [], [18, 17], [], [20, 19], [], [22, 21], [], [24, 23], [], [26, 25], [], [28, 27], [29], [1, 5, 7, 9, 11, 13, 15, 17, 19, 21, 23, 25, 27, 29, 30], [31, 30, 0, 1, 2, 3, 4, 5, 6, 7, 8, 9, 10, 11, 12, 13, 14, 15, 16, 17, 18, 19, 20, 21, 22, 23, 24, 25, 26, 27, 28, 29, 30, 31]]
def z99 : Value := .agg #[.int .i64 0, .int .i64 0, .int .i64 0, .int .i64 0]
def progR (n : Nat) (q : Nat → List Int) : Array Value := ((List.range n).flatMap fun i => (q i).map fun v => Value.int .i64 v).toArray
theorem progR_len {q : Nat → List Int} : ∀ n, (∀ i, i < n → (q i).length = 4) → ((List.range n).flatMap fun i => (q i).map fun v => Value.int .i64 v).length = n * 4
 | 0, _ => rfl
 | n + 1, h => by
   rw [List.range_succ, List.flatMap_append, List.length_append, progR_len n (fun i hi => h i (by omega))]
   simp [h n (by omega)]
   omega
theorem progR_get {q : Nat → List Int} : ∀ n, (∀ i, i < n → (q i).length = 4) → ∀ i j, i < n → j < 4 → (progR n q)[i * 4 + j]? = some (.int .i64 ((q i).getD j 0))
 | 0, _, i, j, hi, _ => by omega
 | n + 1, h, i, j, hi, hj => by
   have ih := progR_get n (fun i hi => h i (by omega)) i j
   have hl := progR_len n (fun i hi => h i (by omega))
   unfold progR at ih ⊢
   rw [List.getElem?_toArray] at ih ⊢
   rw [List.range_succ, List.flatMap_append]
   by_cases e : i < n
   · rw [List.getElem?_append_left (by omega)]
     exact ih e hj
   · obtain rfl : i = n := by omega
     rw [List.getElem?_append_right (by omega), hl, show i * 4 + j - i * 4 = j by omega]
     have h4 := h i (by omega)
     simp only [List.flatMap_cons, List.flatMap_nil, List.append_nil, List.getElem?_map]
     rw [List.getElem?_eq_getElem (by omega), List.getD_eq_getElem?_getD, List.getElem?_eq_getElem (by omega)]
     rfl
theorem insts_of {W : World} {g n : Nat} {q : Nat → List Int} {f : Nat → Nat → Int} (hB : Blk W g 99 (progR n q)) (h4 : ∀ i, i < n → (q i).length = 4) (hf : ∀ i, i < n → f i = fun j => (q i).getD j 0) : InstsAt W (some ⟨g, 0, none⟩) n f := fun _ => ⟨_, rfl, hB.lt, fun i j hi hj => by
 rw [blk_add hB, progR_get n h4 i j hi hj, hf i hi]⟩
theorem pqC_len {W : Nat} : ∀ i, i < 15 → (pqC W i).length = 4 := fun i hi => by
 have h : i = 0 ∨ i = 1 ∨ i = 2 ∨ i = 3 ∨ i = 4 ∨ i = 5 ∨ i = 6 ∨ i = 7 ∨ i = 8 ∨ i = 9 ∨ i = 10 ∨ i = 11 ∨ i = 12 ∨ i = 13 ∨ i = 14 := by omega
 rcases h with rfl | rfl | rfl | rfl | rfl | rfl | rfl | rfl | rfl | rfl | rfl | rfl | rfl | rfl | rfl <;> rfl
theorem pqW_len : ∀ i, i < 8 → (pqW i).length = 4 := fun i hi => by
 have h : i = 0 ∨ i = 1 ∨ i = 2 ∨ i = 3 ∨ i = 4 ∨ i = 5 ∨ i = 6 ∨ i = 7 := by omega
 rcases h with rfl | rfl | rfl | rfl | rfl | rfl | rfl | rfl <;> rfl
theorem pqF_len {b J : Nat} : ∀ i, i < 19 → (pqF b J i).length = 4 := fun i hi => by
 have h : i = 0 ∨ i = 1 ∨ i = 2 ∨ i = 3 ∨ i = 4 ∨ i = 5 ∨ i = 6 ∨ i = 7 ∨ i = 8 ∨ i = 9 ∨ i = 10 ∨ i = 11 ∨ i = 12 ∨ i = 13 ∨ i = 14 ∨ i = 15 ∨ i = 16 ∨ i = 17 ∨ i = 18 := by omega
 rcases h with rfl | rfl | rfl | rfl | rfl | rfl | rfl | rfl | rfl | rfl | rfl | rfl | rfl | rfl | rfl | rfl | rfl | rfl | rfl <;> rfl
theorem pqK_len : ∀ i, i < 3 → (pqK i).length = 4 := fun i hi => by
 have h : i = 0 ∨ i = 1 ∨ i = 2 := by omega
 rcases h with rfl | rfl | rfl <;> rfl
theorem ready_sys {ops : Array Oper} {listed : Array Bool} {i : Nat} (hd : ops.toList.map depsL = sysD) (h : i ∈ Region.ready .any ops listed) : listed.getD i true = false ∧ ∃ D, sysD[i]? = some D ∧ ∀ j ∈ D, listed.getD j false = true := by
 rw [← hd]; exact ready_dep.1 h
theorem lt33 {i : Nat} (h : i < 33) : i = 0 ∨ i = 1 ∨ i = 2 ∨ i = 3 ∨ i = 4 ∨ i = 5 ∨ i = 6 ∨ i = 7 ∨ i = 8 ∨ i = 9 ∨ i = 10 ∨ i = 11 ∨ i = 12 ∨ i = 13 ∨ i = 14 ∨ i = 15 ∨ i = 16 ∨ i = 17 ∨ i = 18 ∨ i = 19 ∨ i = 20 ∨ i = 21 ∨ i = 22 ∨ i = 23 ∨ i = 24 ∨ i = 25 ∨ i = 26 ∨ i = 27 ∨ i = 28 ∨ i = 29 ∨ i = 30 ∨ i = 31 ∨ i = 32 := by omega
theorem lit_intL {W : World} {g : Nat} {xs : List Int} (h : Blk W g 3 (litA xs)) : IntL W (.slice (some ⟨g, 0, none⟩) xs.length xs.length) xs := ⟨_, _, rfl, fun _ => ⟨_, rfl, h.lt, fun j hj => by
 rw [blk_add h]
 simp [litA, hj]⟩⟩
theorem pin_lit {w : World} {g : Nat} {xs : List Int} (op : Int) (h : Blk w g 3 (litA xs)) (hl : xs.length ≤ 3) : Calls Try.prog 84 #[.int .i64 op, .slice (some ⟨g, 0, none⟩) xs.length xs.length] w fun e u => e = .returned (.agg (inC op xs)) ∧ Keeps w u [] := pin_any op _ xs hl (lit_intL h)
section
variable {ops : Array Oper} {rest : List Oper} {o : Oper} {a : Act} {w W : World} {Q : Exit → Act → World → Prop} {S : List Nat} {L : List Ent}
theorem own_litI (d n : Nat) (xs : List Int) {parts : Array (Nat × Operand)} (O : Own w W S L) (hd : o.dst = some d) (hgd : o.guard = none) (ho : o.op = .buildSlice 25 n parts) (hn : 0 < n ∧ n < 9)
   (hf : Instr.fill (fun i => some (i * 1, 1)) ((Array.range (n * 1)).map ((Value.int .i64 0).cells[· % (Value.int .i64 0).cells.size]!)) (parts.map fun (i, x) => (i, a.eval x)).toList = some (litA xs))
   (h : ∀ u g, Own w u S ((g, 3, litA xs) :: L) → Keeps W u [] → wpList Try.prog ops Q rest (a.put o.dst (.slice (some ⟨g, 0, none⟩) n n)) u) : wpList Try.prog ops Q (o :: rest) a W :=
 own_litK d 25 3 n 1 (.int .i64 0) _ (litA xs) O hd hgd ho Try.underlying25 (by kernel_rfl) (by omega) (by omega) hf fun u g O K _ => h u g O K
end
theorem cnt_none (gs : Nat → Option Nat) {j : Nat} (hj : j < 14) (h : gs j = none) (g : Nat) : ((List.range 14).filter fun i => !(gs i).isSome).length = ((List.range 14).filter fun i => !(updN gs j (some g) i).isSome).length + 1 := by
 have h1 := cnt_upd (fun i => (gs i).isSome) j (by simp [h]) 14 hj
 have e : (fun i => !(updN (fun j => (gs j).isSome) j true) i) = fun i => !(updN gs j (some g) i).isSome := by
   funext k
   by_cases hk : k = j
   · subst hk; rw [updN_same, updN_same]; rfl
   · rw [updN_other _ _ _ _ hk, updN_other _ _ _ _ hk]
 rw [e] at h1
 exact h1
theorem cnt_zero (gs : Nat → Option Nat) (h : ((List.range 14).filter fun i => !(gs i).isSome).length = 0) {j : Nat} (hj : j < 14) : (gs j).isSome = true := by
 have h1 := List.filter_eq_nil_iff.1 (List.eq_nil_of_length_eq_zero h) j (List.mem_range.2 hj)
 cases hg : gs j with
 | none => simp [hg] at h1
 | some _ => rfl
section
variable {w0 w : World} {x y : Int} {b3 b4 c : Nat} {gs : Nat → Option Nat}
theorem sys_ready {ops : Array Oper} (hd : ops.toList.map depsL = sysD) (hK : SysK w0 x y b3 b4 gs c w) (hm : sysM gs c ≠ 0) : Region.ready .any ops (sysL gs c) ≠ [] := by
 have key : ∀ i, i ∈ Region.ready .any ops (sysL gs c) → Region.ready .any ops (sysL gs c) ≠ [] := fun i hi h => by rw [h] at hi; cases hi
 have hc := hK.le
 by_cases h15 : c = 15
 · exfalso
   refine hm ?_
   unfold sysM
   rw [List.length_eq_zero_iff.2 (List.filter_eq_nil_iff.2 fun j hj => by have := hK.done j (by have := List.mem_range.1 hj; omega) (List.mem_range.1 hj); simp [this])]
   omega
 · have h14 : c = 0 ∨ c = 1 ∨ c = 2 ∨ c = 3 ∨ c = 4 ∨ c = 5 ∨ c = 6 ∨ c = 7 ∨ c = 8 ∨ c = 9 ∨ c = 10 ∨ c = 11 ∨ c = 12 ∨ c = 13 ∨ c = 14 := by omega
   rcases h14 with rfl | rfl | rfl | rfl | rfl | rfl | rfl | rfl | rfl | rfl | rfl | rfl | rfl | rfl | rfl
   · by_cases hg : (gs 0).isSome = true
     · refine key 1 (ready_dep.2 ⟨rfl, _, by rw [hd]; rfl, fun j hj => ?_⟩)
       rcases List.mem_cons.1 hj with rfl | hj
       · exact hg
       cases hj
     · refine key 0 (ready_dep.2 ⟨by show (gs 0).isSome = false; simpa using hg, _, by rw [hd]; rfl, fun j hj => ?_⟩)
       cases hj
   · by_cases hg : (gs 1).isSome = true
     · refine key 5 (ready_dep.2 ⟨rfl, _, by rw [hd]; rfl, fun j hj => ?_⟩)
       rcases List.mem_cons.1 hj with rfl | hj
       · exact hg
       rcases List.mem_cons.1 hj with rfl | hj
       · rfl
       cases hj
     · refine key 4 (ready_dep.2 ⟨by show (gs 1).isSome = false; simpa using hg, _, by rw [hd]; rfl, fun j hj => ?_⟩)
       rcases List.mem_cons.1 hj with rfl | hj
       · rfl
       cases hj
   · by_cases hg : (gs 2).isSome = true
     · refine key 7 (ready_dep.2 ⟨rfl, _, by rw [hd]; rfl, fun j hj => ?_⟩)
       rcases List.mem_cons.1 hj with rfl | hj
       · exact hg
       rcases List.mem_cons.1 hj with rfl | hj
       · rfl
       cases hj
     · refine key 6 (ready_dep.2 ⟨by show (gs 2).isSome = false; simpa using hg, _, by rw [hd]; rfl, fun j hj => ?_⟩)
       cases hj
   · by_cases hg : (gs 3).isSome = true
     · refine key 9 (ready_dep.2 ⟨rfl, _, by rw [hd]; rfl, fun j hj => ?_⟩)
       rcases List.mem_cons.1 hj with rfl | hj
       · exact hg
       rcases List.mem_cons.1 hj with rfl | hj
       · rfl
       cases hj
     · refine key 8 (ready_dep.2 ⟨by show (gs 3).isSome = false; simpa using hg, _, by rw [hd]; rfl, fun j hj => ?_⟩)
       cases hj
   · by_cases hg : (gs 4).isSome = true
     · refine key 11 (ready_dep.2 ⟨rfl, _, by rw [hd]; rfl, fun j hj => ?_⟩)
       rcases List.mem_cons.1 hj with rfl | hj
       · exact hg
       rcases List.mem_cons.1 hj with rfl | hj
       · rfl
       cases hj
     · refine key 10 (ready_dep.2 ⟨by show (gs 4).isSome = false; simpa using hg, _, by rw [hd]; rfl, fun j hj => ?_⟩)
       cases hj
   · by_cases hg : (gs 5).isSome = true
     · refine key 13 (ready_dep.2 ⟨rfl, _, by rw [hd]; rfl, fun j hj => ?_⟩)
       rcases List.mem_cons.1 hj with rfl | hj
       · exact hg
       rcases List.mem_cons.1 hj with rfl | hj
       · rfl
       cases hj
     · refine key 12 (ready_dep.2 ⟨by show (gs 5).isSome = false; simpa using hg, _, by rw [hd]; rfl, fun j hj => ?_⟩)
       cases hj
   · by_cases hg : (gs 6).isSome = true
     · refine key 15 (ready_dep.2 ⟨rfl, _, by rw [hd]; rfl, fun j hj => ?_⟩)
       rcases List.mem_cons.1 hj with rfl | hj
       · exact hg
       rcases List.mem_cons.1 hj with rfl | hj
       · rfl
       cases hj
     · refine key 14 (ready_dep.2 ⟨by show (gs 6).isSome = false; simpa using hg, _, by rw [hd]; rfl, fun j hj => ?_⟩)
       cases hj
   · by_cases hg : (gs 7).isSome = true
     · refine key 17 (ready_dep.2 ⟨rfl, _, by rw [hd]; rfl, fun j hj => ?_⟩)
       rcases List.mem_cons.1 hj with rfl | hj
       · exact hg
       rcases List.mem_cons.1 hj with rfl | hj
       · rfl
       cases hj
     · refine key 16 (ready_dep.2 ⟨by show (gs 7).isSome = false; simpa using hg, _, by rw [hd]; rfl, fun j hj => ?_⟩)
       cases hj
   · by_cases hg : (gs 8).isSome = true
     · refine key 19 (ready_dep.2 ⟨rfl, _, by rw [hd]; rfl, fun j hj => ?_⟩)
       rcases List.mem_cons.1 hj with rfl | hj
       · exact hg
       rcases List.mem_cons.1 hj with rfl | hj
       · rfl
       cases hj
     · refine key 18 (ready_dep.2 ⟨by show (gs 8).isSome = false; simpa using hg, _, by rw [hd]; rfl, fun j hj => ?_⟩)
       cases hj
   · by_cases hg : (gs 9).isSome = true
     · refine key 21 (ready_dep.2 ⟨rfl, _, by rw [hd]; rfl, fun j hj => ?_⟩)
       rcases List.mem_cons.1 hj with rfl | hj
       · exact hg
       rcases List.mem_cons.1 hj with rfl | hj
       · rfl
       cases hj
     · refine key 20 (ready_dep.2 ⟨by show (gs 9).isSome = false; simpa using hg, _, by rw [hd]; rfl, fun j hj => ?_⟩)
       cases hj
   · by_cases hg : (gs 10).isSome = true
     · refine key 23 (ready_dep.2 ⟨rfl, _, by rw [hd]; rfl, fun j hj => ?_⟩)
       rcases List.mem_cons.1 hj with rfl | hj
       · exact hg
       rcases List.mem_cons.1 hj with rfl | hj
       · rfl
       cases hj
     · refine key 22 (ready_dep.2 ⟨by show (gs 10).isSome = false; simpa using hg, _, by rw [hd]; rfl, fun j hj => ?_⟩)
       cases hj
   · by_cases hg : (gs 11).isSome = true
     · refine key 25 (ready_dep.2 ⟨rfl, _, by rw [hd]; rfl, fun j hj => ?_⟩)
       rcases List.mem_cons.1 hj with rfl | hj
       · exact hg
       rcases List.mem_cons.1 hj with rfl | hj
       · rfl
       cases hj
     · refine key 24 (ready_dep.2 ⟨by show (gs 11).isSome = false; simpa using hg, _, by rw [hd]; rfl, fun j hj => ?_⟩)
       cases hj
   · by_cases hg : (gs 12).isSome = true
     · refine key 27 (ready_dep.2 ⟨rfl, _, by rw [hd]; rfl, fun j hj => ?_⟩)
       rcases List.mem_cons.1 hj with rfl | hj
       · exact hg
       rcases List.mem_cons.1 hj with rfl | hj
       · rfl
       cases hj
     · refine key 26 (ready_dep.2 ⟨by show (gs 12).isSome = false; simpa using hg, _, by rw [hd]; rfl, fun j hj => ?_⟩)
       cases hj
   · by_cases hg : (gs 13).isSome = true
     · refine key 29 (ready_dep.2 ⟨rfl, _, by rw [hd]; rfl, fun j hj => ?_⟩)
       rcases List.mem_cons.1 hj with rfl | hj
       · exact hg
       rcases List.mem_cons.1 hj with rfl | hj
       · rfl
       cases hj
     · refine key 28 (ready_dep.2 ⟨by show (gs 13).isSome = false; simpa using hg, _, by rw [hd]; rfl, fun j hj => ?_⟩)
       cases hj
   · refine key 30 (ready_dep.2 ⟨rfl, _, by rw [hd]; rfl, fun j hj => ?_⟩)
     rcases List.mem_cons.1 hj with rfl | hj
     · rfl
     · cases hj
end
section
variable {w0 w u : World} {x y : Int} {b3 b4 c : Nat} {gs : Nat → Option Nat}
theorem SysK.lit (hK : SysK w0 x y b3 b4 gs c w) {j g : Nat} (O : Own w0 u [] ((g, 3, litA (lx x j)) :: [(b4, 27, sysZ), (b3, 89, plV x y)])) (K : Keeps w u []) : SysK w0 x y b3 b4 (updN gs j (some g)) c u := by
 refine ⟨O.drop_ 1, fun j' g' h hj' => ?_, hK.le, fun k h1 h2 => ?_⟩
 · by_cases e : j' = j
   · subst e
     rw [updN_same] at h
     cases h
     exact O.get 0 rfl
   · rw [updN_other _ _ _ _ e] at h
     exact (hK.blk j' g' h hj').keeps K (by simp)
 · by_cases e : k = j
   · subst e; rw [updN_same]; rfl
   · rw [updN_other _ _ _ _ e]; exact hK.done k h1 h2
theorem SysK.call (hK : SysK w0 x y b3 b4 gs c w) (K : Keeps w u []) (hc : c < 15) (hg : c < 14 → (gs c).isSome = true) : SysK w0 x y b3 b4 gs (c + 1) u := by
 refine ⟨hK.own.keeps K, fun j g h hj => (hK.blk j g h hj).keeps K (by simp), by omega, fun k h1 h2 => ?_⟩
 by_cases e : k = c
 · subst e; exact hg h2
 · exact hK.done k (by omega) h2
theorem sysM_call (hc : c < 15) : sysM gs c = sysM gs (c + 1) + 1 := by unfold sysM; omega
theorem sysM_lit {j : Nat} (hj : j < 14) (h : gs j = none) (g : Nat) : sysM gs c = sysM (updN gs j (some g)) c + 1 := by
 unfold sysM
 rw [cnt_none gs hj h g]
 omega
theorem sysM_zero (hK : SysK w0 x y b3 b4 gs c w) (hc : c = 15) : sysM gs c = 0 := by
 unfold sysM
 rw [List.length_eq_zero_iff.2 (List.filter_eq_nil_iff.2 fun j hj => by have := hK.done j (by have := List.mem_range.1 hj; omega) (List.mem_range.1 hj); simp [this])]
 omega
set_option maxRecDepth 100000 in
set_option maxHeartbeats 8000000 in
theorem psys_good (x y J : Nat) (h : plB x y = true) (hJ : J ≤ 1024) : Calls Try.prog 50 #[.int .i64 (J : Int), .agg (plV x y)] w fun e u => ∃ A c R d, e = .returned (.tuple #[.agg (sysV (poolS x y (min (y + x) 64) J) A c R d), .int .i64 0]) ∧ SysIn u (poolS x y (min (y + x) 64) J) A c R d ∧ Keeps w u [] := by
 have O := Own.start w []
 have HB := Lib.hid (fun u => pbuffers_any (w := u) (x : Int) (y : Int))
 unfold plE at HB
 rw [if_pos h, if_pos h, min_nat] at HB
 obtain ⟨b, hb⟩ : ∃ b, b = min (y + x) 64 := ⟨_, rfl⟩
 rw [← hb] at HB ⊢
 have hb4 : b ≤ 64 := by omega
 have hJ2 : (J : Int) ≤ 1024 := by omega
 have HBQ := Lib.hid hb
 clear hb h
 go_enter Try.func50, Try.ntmps50
 go_wp2_with (first
   | go_big_skip
   | (refine own_box 3 (plV x y) O rfl rfl rfl rfl ?_; clear O; intro W b3 O; simp only [Act.put, kA, kZ, kS])
   | (refine own_alloc 4 sysZ O rfl rfl rfl (fun _ => by kernel_rfl) ?_; clear O; intro W b4 O; simp only [Act.put, kA, kZ, kS])
   | (refine own_load 13 1 O rfl rfl rfl rfl rfl Try.underlying89 rfl (by kernel_rfl) ?_; simp only [Act.put, kA, kZ, kS])
   | (go_at_call 83; refine (HB.out _).mono ?_; rintro e W ⟨rfl, K⟩; replace O := O.keeps K; clear K))
 refine wp_headH (S := fun u' => Own w u' [] [(b4, 27, sysZ), (b3, 89, plV x y)]) 31 (by kernel_rfl) (by kernel_rfl) ?_
 replace O := O.drew
 refine ah_take (f := 29) (L' := sysL (fun _ => none) 0) (by exact O) [2, 3] [_, _] _ _ rfl (by decide) (by kernel_rfl) ?_
 simp only [List.getElem_toArray, List.getElem_cons_zero, List.getElem_cons_succ]
 repeat (first
   | (refine take_pure (v := ?_) (by rfl) ?_ ?_; rotate_left; (· (intro w hSw; have c3 : w.cell? ⟨b3, 0, none⟩ = some (.int .i64 (x : Int)) := (hSw.get 1 rfl).cell 0; clear hSw; go_simp; try with_reducible rfl)); simp only [Act.put, kA, kZ, kS]))
 refine takeA_done ?_
 refine ah_gen (σ := (Nat → Option Nat) × Nat) (fun s => sysM s.1 s.2) (fun s => sysL s.1 s.2) (fun s => sysA J b x y b3 b4 s.1 s.2) (fun s u => SysK w x y b3 b4 s.1 s.2 u) (fun s u hK => hK.own) (fun s u hK hm => sys_ready (by kernel_rfl) hK hm) ?hstep ?fin 29 (fun _ => none, 0) _ (by kernel_rfl) ⟨O, fun j g h => (by cases h), Nat.zero_le _, fun k hk => (by omega)⟩
 case hstep =>
   clear O
   intro s u hK i hi hm
   obtain ⟨gs, c⟩ := s
   simp only at hK hm
   obtain ⟨hu, D, hD, hl⟩ := ready_sys (by kernel_rfl) hi
   have hi33 : i < 33 := (List.getElem?_eq_some_iff.1 hD).1
   clear hi
   rcases lt33 hi33 with rfl | rfl | rfl | rfl | rfl | rfl | rfl | rfl | rfl | rfl | rfl | rfl | rfl | rfl | rfl | rfl | rfl | rfl | rfl | rfl | rfl | rfl | rfl | rfl | rfl | rfl | rfl | rfl | rfl | rfl | rfl | rfl | rfl
   · have hn : gs 0 = none := by have e : (gs 0).isSome = false := hu; simpa using e
     have O := hK.own
     refine ⟨by decide, _, rfl, fun K' hK' => ?_⟩
     clear hD hl hu hi33 hm
     unfold sysA
     go_wp2_with (refine own_litK 28 25 3 2 1 (.int .i64 0) _ (litA (lx x 0)) O rfl rfl rfl Try.underlying25 (by kernel_rfl) (by decide) (by decide) (by first | rfl | kernel_rfl) ?_; clear O; intro u2 g O K2 hg; simp only [Act.put, kA, kZ, kS])
     exact hK' (updN gs 0 (some g), c) u2 (hK.lit O K2) rfl (sysM_lit (by decide) hn g)
   · obtain rfl := Option.some.inj (show some [0] = some D from hD)
     have h0 : (gs 0).isSome = true := hl 0 (by simp)
     have h2 : decide (0 < c) = false := hu
     obtain rfl : c = 0 := by have := of_decide_eq_false h2; omega
     obtain ⟨g, hg⟩ := Option.isSome_iff_exists.1 h0
     have hB := hK.blk 0 g hg (by decide)
     have hs : slotL (gs 0) 2 = .slice (some ⟨g, 0, none⟩) 2 2 := by rw [hg]; rfl
     have hI : IntL u (.slice (some ⟨g, 0, none⟩) 2 2) (lx x 0) := lit_intL hB
     refine ⟨by decide, _, rfl, fun K' hK' => ?_⟩
     clear hD hl hu hi33 hm h2 
     unfold sysA
     rw [hs]
     go_wp2_with (go_at_call 84; refine (pin_any 1 _ (lx x 0) (show 2 ≤ 3 by decide) hI).mono ?_; rintro e u2 ⟨rfl, K⟩)
     have h9 := hK' (gs, 1) u2 (hK.call K (by decide) (fun _ => h0)) rfl (sysM_call (by decide))
     unfold sysA at h9
     rw [hs] at h9
     exact h9
   · exact absurd hu (by intro q; exact Bool.noConfusion q)
   · exact absurd hu (by intro q; exact Bool.noConfusion q)
   · have hn : gs 1 = none := by have e : (gs 1).isSome = false := hu; simpa using e
     have O := hK.own
     refine ⟨by decide, _, rfl, fun K' hK' => ?_⟩
     clear hD hl hu hi33 hm
     unfold sysA
     go_wp2_with (refine own_litK 32 25 3 2 1 (.int .i64 0) _ (litA (lx x 1)) O rfl rfl rfl Try.underlying25 (by kernel_rfl) (by decide) (by decide) (by first | rfl | kernel_rfl) ?_; clear O; intro u2 g O K2 hg; simp only [Act.put, kA, kZ, kS])
     exact hK' (updN gs 1 (some g), c) u2 (hK.lit O K2) rfl (sysM_lit (by decide) hn g)
   · obtain rfl := Option.some.inj (show some [4, 1] = some D from hD)
     have h0 : (gs 1).isSome = true := hl 4 (by simp)
     have h2 : decide (1 < c) = false := hu
     have h1 : decide (0 < c) = true := hl 1 (by simp)
     obtain rfl : c = 1 := by have := of_decide_eq_true h1; have := of_decide_eq_false h2; omega
     obtain ⟨g, hg⟩ := Option.isSome_iff_exists.1 h0
     have hB := hK.blk 1 g hg (by decide)
     have hs : slotL (gs 1) 2 = .slice (some ⟨g, 0, none⟩) 2 2 := by rw [hg]; rfl
     have hI : IntL u (.slice (some ⟨g, 0, none⟩) 2 2) (lx x 1) := lit_intL hB
     refine ⟨by decide, _, rfl, fun K' hK' => ?_⟩
     clear hD hl hu hi33 hm h2 h1
     unfold sysA
     rw [hs]
     go_wp2_with (go_at_call 84; refine (pin_any 1 _ (lx x 1) (show 2 ≤ 3 by decide) hI).mono ?_; rintro e u2 ⟨rfl, K⟩)
     have h9 := hK' (gs, 2) u2 (hK.call K (by decide) (fun _ => h0)) rfl (sysM_call (by decide))
     unfold sysA at h9
     rw [hs] at h9
     exact h9
   · have hn : gs 2 = none := by have e : (gs 2).isSome = false := hu; simpa using e
     have O := hK.own
     refine ⟨by decide, _, rfl, fun K' hK' => ?_⟩
     clear hD hl hu hi33 hm
     unfold sysA
     go_wp2_with (refine own_litK 34 25 3 2 1 (.int .i64 0) _ (litA (lx x 2)) O rfl rfl rfl Try.underlying25 (by kernel_rfl) (by decide) (by decide) (by first | rfl | kernel_rfl) ?_; clear O; intro u2 g O K2 hg; simp only [Act.put, kA, kZ, kS])
     exact hK' (updN gs 2 (some g), c) u2 (hK.lit O K2) rfl (sysM_lit (by decide) hn g)
   · obtain rfl := Option.some.inj (show some [6, 5] = some D from hD)
     have h0 : (gs 2).isSome = true := hl 6 (by simp)
     have h2 : decide (2 < c) = false := hu
     have h1 : decide (1 < c) = true := hl 5 (by simp)
     obtain rfl : c = 2 := by have := of_decide_eq_true h1; have := of_decide_eq_false h2; omega
     obtain ⟨g, hg⟩ := Option.isSome_iff_exists.1 h0
     have hB := hK.blk 2 g hg (by decide)
     have hs : slotL (gs 2) 2 = .slice (some ⟨g, 0, none⟩) 2 2 := by rw [hg]; rfl
     have hI : IntL u (.slice (some ⟨g, 0, none⟩) 2 2) (lx x 2) := lit_intL hB
     refine ⟨by decide, _, rfl, fun K' hK' => ?_⟩
     clear hD hl hu hi33 hm h2 h1
     unfold sysA
     rw [hs]
     go_wp2_with (go_at_call 84; refine (pin_any 1 _ (lx x 2) (show 2 ≤ 3 by decide) hI).mono ?_; rintro e u2 ⟨rfl, K⟩)
     have h9 := hK' (gs, 3) u2 (hK.call K (by decide) (fun _ => h0)) rfl (sysM_call (by decide))
     unfold sysA at h9
     rw [hs] at h9
     exact h9
   · have hn : gs 3 = none := by have e : (gs 3).isSome = false := hu; simpa using e
     have O := hK.own
     refine ⟨by decide, _, rfl, fun K' hK' => ?_⟩
     clear hD hl hu hi33 hm
     unfold sysA
     go_wp2_with (refine own_litK 36 25 3 3 1 (.int .i64 0) _ (litA (lx x 3)) O rfl rfl rfl Try.underlying25 (by kernel_rfl) (by decide) (by decide) (by first | rfl | kernel_rfl) ?_; clear O; intro u2 g O K2 hg; simp only [Act.put, kA, kZ, kS])
     exact hK' (updN gs 3 (some g), c) u2 (hK.lit O K2) rfl (sysM_lit (by decide) hn g)
   · obtain rfl := Option.some.inj (show some [8, 7] = some D from hD)
     have h0 : (gs 3).isSome = true := hl 8 (by simp)
     have h2 : decide (3 < c) = false := hu
     have h1 : decide (2 < c) = true := hl 7 (by simp)
     obtain rfl : c = 3 := by have := of_decide_eq_true h1; have := of_decide_eq_false h2; omega
     obtain ⟨g, hg⟩ := Option.isSome_iff_exists.1 h0
     have hB := hK.blk 3 g hg (by decide)
     have hs : slotL (gs 3) 3 = .slice (some ⟨g, 0, none⟩) 3 3 := by rw [hg]; rfl
     have hI : IntL u (.slice (some ⟨g, 0, none⟩) 3 3) (lx x 3) := lit_intL hB
     refine ⟨by decide, _, rfl, fun K' hK' => ?_⟩
     clear hD hl hu hi33 hm h2 h1
     unfold sysA
     rw [hs]
     go_wp2_with (go_at_call 84; refine (pin_any 3 _ (lx x 3) (show 3 ≤ 3 by decide) hI).mono ?_; rintro e u2 ⟨rfl, K⟩)
     have h9 := hK' (gs, 4) u2 (hK.call K (by decide) (fun _ => h0)) rfl (sysM_call (by decide))
     unfold sysA at h9
     rw [hs] at h9
     exact h9
   · have hn : gs 4 = none := by have e : (gs 4).isSome = false := hu; simpa using e
     have O := hK.own
     refine ⟨by decide, _, rfl, fun K' hK' => ?_⟩
     clear hD hl hu hi33 hm
     unfold sysA
     go_wp2_with (refine own_litK 38 25 3 3 1 (.int .i64 0) _ (litA (lx x 4)) O rfl rfl rfl Try.underlying25 (by kernel_rfl) (by decide) (by decide) (by first | rfl | kernel_rfl) ?_; clear O; intro u2 g O K2 hg; simp only [Act.put, kA, kZ, kS])
     exact hK' (updN gs 4 (some g), c) u2 (hK.lit O K2) rfl (sysM_lit (by decide) hn g)
   · obtain rfl := Option.some.inj (show some [10, 9] = some D from hD)
     have h0 : (gs 4).isSome = true := hl 10 (by simp)
     have h2 : decide (4 < c) = false := hu
     have h1 : decide (3 < c) = true := hl 9 (by simp)
     obtain rfl : c = 4 := by have := of_decide_eq_true h1; have := of_decide_eq_false h2; omega
     obtain ⟨g, hg⟩ := Option.isSome_iff_exists.1 h0
     have hB := hK.blk 4 g hg (by decide)
     have hs : slotL (gs 4) 3 = .slice (some ⟨g, 0, none⟩) 3 3 := by rw [hg]; rfl
     have hI : IntL u (.slice (some ⟨g, 0, none⟩) 3 3) (lx x 4) := lit_intL hB
     refine ⟨by decide, _, rfl, fun K' hK' => ?_⟩
     clear hD hl hu hi33 hm h2 h1
     unfold sysA
     rw [hs]
     go_wp2_with (go_at_call 84; refine (pin_any 4 _ (lx x 4) (show 3 ≤ 3 by decide) hI).mono ?_; rintro e u2 ⟨rfl, K⟩)
     have h9 := hK' (gs, 5) u2 (hK.call K (by decide) (fun _ => h0)) rfl (sysM_call (by decide))
     unfold sysA at h9
     rw [hs] at h9
     exact h9
   · have hn : gs 5 = none := by have e : (gs 5).isSome = false := hu; simpa using e
     have O := hK.own
     refine ⟨by decide, _, rfl, fun K' hK' => ?_⟩
     clear hD hl hu hi33 hm
     unfold sysA
     go_wp2_with (refine own_litK 40 25 3 2 1 (.int .i64 0) _ (litA (lx x 5)) O rfl rfl rfl Try.underlying25 (by kernel_rfl) (by decide) (by decide) (by first | rfl | kernel_rfl) ?_; clear O; intro u2 g O K2 hg; simp only [Act.put, kA, kZ, kS])
     exact hK' (updN gs 5 (some g), c) u2 (hK.lit O K2) rfl (sysM_lit (by decide) hn g)
   · obtain rfl := Option.some.inj (show some [12, 11] = some D from hD)
     have h0 : (gs 5).isSome = true := hl 12 (by simp)
     have h2 : decide (5 < c) = false := hu
     have h1 : decide (4 < c) = true := hl 11 (by simp)
     obtain rfl : c = 5 := by have := of_decide_eq_true h1; have := of_decide_eq_false h2; omega
     obtain ⟨g, hg⟩ := Option.isSome_iff_exists.1 h0
     have hB := hK.blk 5 g hg (by decide)
     have hs : slotL (gs 5) 2 = .slice (some ⟨g, 0, none⟩) 2 2 := by rw [hg]; rfl
     have hI : IntL u (.slice (some ⟨g, 0, none⟩) 2 2) (lx x 5) := lit_intL hB
     refine ⟨by decide, _, rfl, fun K' hK' => ?_⟩
     clear hD hl hu hi33 hm h2 h1
     unfold sysA
     rw [hs]
     go_wp2_with (go_at_call 84; refine (pin_any 10 _ (lx x 5) (show 2 ≤ 3 by decide) hI).mono ?_; rintro e u2 ⟨rfl, K⟩)
     have h9 := hK' (gs, 6) u2 (hK.call K (by decide) (fun _ => h0)) rfl (sysM_call (by decide))
     unfold sysA at h9
     rw [hs] at h9
     exact h9
   · have hn : gs 6 = none := by have e : (gs 6).isSome = false := hu; simpa using e
     have O := hK.own
     refine ⟨by decide, _, rfl, fun K' hK' => ?_⟩
     clear hD hl hu hi33 hm
     unfold sysA
     go_wp2_with (refine own_litK 42 25 3 1 1 (.int .i64 0) _ (litA (lx x 6)) O rfl rfl rfl Try.underlying25 (by kernel_rfl) (by decide) (by decide) (by first | rfl | kernel_rfl) ?_; clear O; intro u2 g O K2 hg; simp only [Act.put, kA, kZ, kS])
     exact hK' (updN gs 6 (some g), c) u2 (hK.lit O K2) rfl (sysM_lit (by decide) hn g)
   · obtain rfl := Option.some.inj (show some [14, 13] = some D from hD)
     have h0 : (gs 6).isSome = true := hl 14 (by simp)
     have h2 : decide (6 < c) = false := hu
     have h1 : decide (5 < c) = true := hl 13 (by simp)
     obtain rfl : c = 6 := by have := of_decide_eq_true h1; have := of_decide_eq_false h2; omega
     obtain ⟨g, hg⟩ := Option.isSome_iff_exists.1 h0
     have hB := hK.blk 6 g hg (by decide)
     have hs : slotL (gs 6) 1 = .slice (some ⟨g, 0, none⟩) 1 1 := by rw [hg]; rfl
     have hI : IntL u (.slice (some ⟨g, 0, none⟩) 1 1) (lx x 6) := lit_intL hB
     refine ⟨by decide, _, rfl, fun K' hK' => ?_⟩
     clear hD hl hu hi33 hm h2 h1
     unfold sysA
     rw [hs]
     go_wp2_with (go_at_call 84; refine (pin_any 14 _ (lx x 6) (show 1 ≤ 3 by decide) hI).mono ?_; rintro e u2 ⟨rfl, K⟩)
     have h9 := hK' (gs, 7) u2 (hK.call K (by decide) (fun _ => h0)) rfl (sysM_call (by decide))
     unfold sysA at h9
     rw [hs] at h9
     exact h9
   · have hn : gs 7 = none := by have e : (gs 7).isSome = false := hu; simpa using e
     have O := hK.own
     refine ⟨by decide, _, rfl, fun K' hK' => ?_⟩
     clear hD hl hu hi33 hm
     unfold sysA
     go_wp2_with (refine own_litK 44 25 3 2 1 (.int .i64 0) _ (litA (lx x 7)) O rfl rfl rfl Try.underlying25 (by kernel_rfl) (by decide) (by decide) (by first | rfl | kernel_rfl) ?_; clear O; intro u2 g O K2 hg; simp only [Act.put, kA, kZ, kS])
     exact hK' (updN gs 7 (some g), c) u2 (hK.lit O K2) rfl (sysM_lit (by decide) hn g)
   · obtain rfl := Option.some.inj (show some [16, 15] = some D from hD)
     have h0 : (gs 7).isSome = true := hl 16 (by simp)
     have h2 : decide (7 < c) = false := hu
     have h1 : decide (6 < c) = true := hl 15 (by simp)
     obtain rfl : c = 7 := by have := of_decide_eq_true h1; have := of_decide_eq_false h2; omega
     obtain ⟨g, hg⟩ := Option.isSome_iff_exists.1 h0
     have hB := hK.blk 7 g hg (by decide)
     have hs : slotL (gs 7) 2 = .slice (some ⟨g, 0, none⟩) 2 2 := by rw [hg]; rfl
     have hI : IntL u (.slice (some ⟨g, 0, none⟩) 2 2) (lx x 7) := lit_intL hB
     refine ⟨by decide, _, rfl, fun K' hK' => ?_⟩
     clear hD hl hu hi33 hm h2 h1
     unfold sysA
     rw [hs]
     go_wp2_with (go_at_call 84; refine (pin_any 2 _ (lx x 7) (show 2 ≤ 3 by decide) hI).mono ?_; rintro e u2 ⟨rfl, K⟩)
     have h9 := hK' (gs, 8) u2 (hK.call K (by decide) (fun _ => h0)) rfl (sysM_call (by decide))
     unfold sysA at h9
     rw [hs] at h9
     exact h9
   · have hn : gs 8 = none := by have e : (gs 8).isSome = false := hu; simpa using e
     have O := hK.own
     refine ⟨by decide, _, rfl, fun K' hK' => ?_⟩
     clear hD hl hu hi33 hm
     unfold sysA
     go_wp2_with (refine own_litK 46 25 3 3 1 (.int .i64 0) _ (litA (lx x 8)) O rfl rfl rfl Try.underlying25 (by kernel_rfl) (by decide) (by decide) (by first | rfl | kernel_rfl) ?_; clear O; intro u2 g O K2 hg; simp only [Act.put, kA, kZ, kS])
     exact hK' (updN gs 8 (some g), c) u2 (hK.lit O K2) rfl (sysM_lit (by decide) hn g)
   · obtain rfl := Option.some.inj (show some [18, 17] = some D from hD)
     have h0 : (gs 8).isSome = true := hl 18 (by simp)
     have h2 : decide (8 < c) = false := hu
     have h1 : decide (7 < c) = true := hl 17 (by simp)
     obtain rfl : c = 8 := by have := of_decide_eq_true h1; have := of_decide_eq_false h2; omega
     obtain ⟨g, hg⟩ := Option.isSome_iff_exists.1 h0
     have hB := hK.blk 8 g hg (by decide)
     have hs : slotL (gs 8) 3 = .slice (some ⟨g, 0, none⟩) 3 3 := by rw [hg]; rfl
     have hI : IntL u (.slice (some ⟨g, 0, none⟩) 3 3) (lx x 8) := lit_intL hB
     refine ⟨by decide, _, rfl, fun K' hK' => ?_⟩
     clear hD hl hu hi33 hm h2 h1
     unfold sysA
     rw [hs]
     go_wp2_with (go_at_call 84; refine (pin_any 4 _ (lx x 8) (show 3 ≤ 3 by decide) hI).mono ?_; rintro e u2 ⟨rfl, K⟩)
     have h9 := hK' (gs, 9) u2 (hK.call K (by decide) (fun _ => h0)) rfl (sysM_call (by decide))
     unfold sysA at h9
     rw [hs] at h9
     exact h9
   · have hn : gs 9 = none := by have e : (gs 9).isSome = false := hu; simpa using e
     have O := hK.own
     refine ⟨by decide, _, rfl, fun K' hK' => ?_⟩
     clear hD hl hu hi33 hm
     unfold sysA
     go_wp2_with (refine own_litK 48 25 3 1 1 (.int .i64 0) _ (litA (lx x 9)) O rfl rfl rfl Try.underlying25 (by kernel_rfl) (by decide) (by decide) (by first | rfl | kernel_rfl) ?_; clear O; intro u2 g O K2 hg; simp only [Act.put, kA, kZ, kS])
     exact hK' (updN gs 9 (some g), c) u2 (hK.lit O K2) rfl (sysM_lit (by decide) hn g)
   · obtain rfl := Option.some.inj (show some [20, 19] = some D from hD)
     have h0 : (gs 9).isSome = true := hl 20 (by simp)
     have h2 : decide (9 < c) = false := hu
     have h1 : decide (8 < c) = true := hl 19 (by simp)
     obtain rfl : c = 9 := by have := of_decide_eq_true h1; have := of_decide_eq_false h2; omega
     obtain ⟨g, hg⟩ := Option.isSome_iff_exists.1 h0
     have hB := hK.blk 9 g hg (by decide)
     have hs : slotL (gs 9) 1 = .slice (some ⟨g, 0, none⟩) 1 1 := by rw [hg]; rfl
     have hI : IntL u (.slice (some ⟨g, 0, none⟩) 1 1) (lx x 9) := lit_intL hB
     refine ⟨by decide, _, rfl, fun K' hK' => ?_⟩
     clear hD hl hu hi33 hm h2 h1
     unfold sysA
     rw [hs]
     go_wp2_with (go_at_call 84; refine (pin_any 14 _ (lx x 9) (show 1 ≤ 3 by decide) hI).mono ?_; rintro e u2 ⟨rfl, K⟩)
     have h9 := hK' (gs, 10) u2 (hK.call K (by decide) (fun _ => h0)) rfl (sysM_call (by decide))
     unfold sysA at h9
     rw [hs] at h9
     exact h9
   · have hn : gs 10 = none := by have e : (gs 10).isSome = false := hu; simpa using e
     have O := hK.own
     refine ⟨by decide, _, rfl, fun K' hK' => ?_⟩
     clear hD hl hu hi33 hm
     unfold sysA
     go_wp2_with (refine own_litK 50 25 3 1 1 (.int .i64 0) _ (litA (lx x 10)) O rfl rfl rfl Try.underlying25 (by kernel_rfl) (by decide) (by decide) (by first | rfl | kernel_rfl) ?_; clear O; intro u2 g O K2 hg; simp only [Act.put, kA, kZ, kS])
     exact hK' (updN gs 10 (some g), c) u2 (hK.lit O K2) rfl (sysM_lit (by decide) hn g)
   · obtain rfl := Option.some.inj (show some [22, 21] = some D from hD)
     have h0 : (gs 10).isSome = true := hl 22 (by simp)
     have h2 : decide (10 < c) = false := hu
     have h1 : decide (9 < c) = true := hl 21 (by simp)
     obtain rfl : c = 10 := by have := of_decide_eq_true h1; have := of_decide_eq_false h2; omega
     obtain ⟨g, hg⟩ := Option.isSome_iff_exists.1 h0
     have hB := hK.blk 10 g hg (by decide)
     have hs : slotL (gs 10) 1 = .slice (some ⟨g, 0, none⟩) 1 1 := by rw [hg]; rfl
     have hI : IntL u (.slice (some ⟨g, 0, none⟩) 1 1) (lx x 10) := lit_intL hB
     refine ⟨by decide, _, rfl, fun K' hK' => ?_⟩
     clear hD hl hu hi33 hm h2 h1
     unfold sysA
     rw [hs]
     go_wp2_with (go_at_call 84; refine (pin_any 14 _ (lx x 10) (show 1 ≤ 3 by decide) hI).mono ?_; rintro e u2 ⟨rfl, K⟩)
     have h9 := hK' (gs, 11) u2 (hK.call K (by decide) (fun _ => h0)) rfl (sysM_call (by decide))
     unfold sysA at h9
     rw [hs] at h9
     exact h9
   · have hn : gs 11 = none := by have e : (gs 11).isSome = false := hu; simpa using e
     have O := hK.own
     refine ⟨by decide, _, rfl, fun K' hK' => ?_⟩
     clear hD hl hu hi33 hm
     unfold sysA
     go_wp2_with (refine own_litK 52 25 3 3 1 (.int .i64 0) _ (litA (lx x 11)) O rfl rfl rfl Try.underlying25 (by kernel_rfl) (by decide) (by decide) (by first | rfl | kernel_rfl) ?_; clear O; intro u2 g O K2 hg; simp only [Act.put, kA, kZ, kS])
     exact hK' (updN gs 11 (some g), c) u2 (hK.lit O K2) rfl (sysM_lit (by decide) hn g)
   · obtain rfl := Option.some.inj (show some [24, 23] = some D from hD)
     have h0 : (gs 11).isSome = true := hl 24 (by simp)
     have h2 : decide (11 < c) = false := hu
     have h1 : decide (10 < c) = true := hl 23 (by simp)
     obtain rfl : c = 11 := by have := of_decide_eq_true h1; have := of_decide_eq_false h2; omega
     obtain ⟨g, hg⟩ := Option.isSome_iff_exists.1 h0
     have hB := hK.blk 11 g hg (by decide)
     have hs : slotL (gs 11) 3 = .slice (some ⟨g, 0, none⟩) 3 3 := by rw [hg]; rfl
     have hI : IntL u (.slice (some ⟨g, 0, none⟩) 3 3) (lx x 11) := lit_intL hB
     refine ⟨by decide, _, rfl, fun K' hK' => ?_⟩
     clear hD hl hu hi33 hm h2 h1
     unfold sysA
     rw [hs]
     go_wp2_with (go_at_call 84; refine (pin_any 6 _ (lx x 11) (show 3 ≤ 3 by decide) hI).mono ?_; rintro e u2 ⟨rfl, K⟩)
     have h9 := hK' (gs, 12) u2 (hK.call K (by decide) (fun _ => h0)) rfl (sysM_call (by decide))
     unfold sysA at h9
     rw [hs] at h9
     exact h9
   · have hn : gs 12 = none := by have e : (gs 12).isSome = false := hu; simpa using e
     have O := hK.own
     refine ⟨by decide, _, rfl, fun K' hK' => ?_⟩
     clear hD hl hu hi33 hm
     unfold sysA
     go_wp2_with (refine own_litK 54 25 3 2 1 (.int .i64 0) _ (litA (lx x 12)) O rfl rfl rfl Try.underlying25 (by kernel_rfl) (by decide) (by decide) (by first | rfl | kernel_rfl) ?_; clear O; intro u2 g O K2 hg; simp only [Act.put, kA, kZ, kS])
     exact hK' (updN gs 12 (some g), c) u2 (hK.lit O K2) rfl (sysM_lit (by decide) hn g)
   · obtain rfl := Option.some.inj (show some [26, 25] = some D from hD)
     have h0 : (gs 12).isSome = true := hl 26 (by simp)
     have h2 : decide (12 < c) = false := hu
     have h1 : decide (11 < c) = true := hl 25 (by simp)
     obtain rfl : c = 12 := by have := of_decide_eq_true h1; have := of_decide_eq_false h2; omega
     obtain ⟨g, hg⟩ := Option.isSome_iff_exists.1 h0
     have hB := hK.blk 12 g hg (by decide)
     have hs : slotL (gs 12) 2 = .slice (some ⟨g, 0, none⟩) 2 2 := by rw [hg]; rfl
     have hI : IntL u (.slice (some ⟨g, 0, none⟩) 2 2) (lx x 12) := lit_intL hB
     refine ⟨by decide, _, rfl, fun K' hK' => ?_⟩
     clear hD hl hu hi33 hm h2 h1
     unfold sysA
     rw [hs]
     go_wp2_with (go_at_call 84; refine (pin_any 15 _ (lx x 12) (show 2 ≤ 3 by decide) hI).mono ?_; rintro e u2 ⟨rfl, K⟩)
     have h9 := hK' (gs, 13) u2 (hK.call K (by decide) (fun _ => h0)) rfl (sysM_call (by decide))
     unfold sysA at h9
     rw [hs] at h9
     exact h9
   · have hn : gs 13 = none := by have e : (gs 13).isSome = false := hu; simpa using e
     have O := hK.own
     refine ⟨by decide, _, rfl, fun K' hK' => ?_⟩
     clear hD hl hu hi33 hm
     unfold sysA
     go_wp2_with (refine own_litK 56 25 3 3 1 (.int .i64 0) _ (litA (lx x 13)) O rfl rfl rfl Try.underlying25 (by kernel_rfl) (by decide) (by decide) (by first | rfl | kernel_rfl) ?_; clear O; intro u2 g O K2 hg; simp only [Act.put, kA, kZ, kS])
     exact hK' (updN gs 13 (some g), c) u2 (hK.lit O K2) rfl (sysM_lit (by decide) hn g)
   · obtain rfl := Option.some.inj (show some [28, 27] = some D from hD)
     have h0 : (gs 13).isSome = true := hl 28 (by simp)
     have h2 : decide (13 < c) = false := hu
     have h1 : decide (12 < c) = true := hl 27 (by simp)
     obtain rfl : c = 13 := by have := of_decide_eq_true h1; have := of_decide_eq_false h2; omega
     obtain ⟨g, hg⟩ := Option.isSome_iff_exists.1 h0
     have hB := hK.blk 13 g hg (by decide)
     have hs : slotL (gs 13) 3 = .slice (some ⟨g, 0, none⟩) 3 3 := by rw [hg]; rfl
     have hI : IntL u (.slice (some ⟨g, 0, none⟩) 3 3) (lx x 13) := lit_intL hB
     refine ⟨by decide, _, rfl, fun K' hK' => ?_⟩
     clear hD hl hu hi33 hm h2 h1
     unfold sysA
     rw [hs]
     go_wp2_with (go_at_call 84; refine (pin_any 4 _ (lx x 13) (show 3 ≤ 3 by decide) hI).mono ?_; rintro e u2 ⟨rfl, K⟩)
     have h9 := hK' (gs, 14) u2 (hK.call K (by decide) (fun _ => h0)) rfl (sysM_call (by decide))
     unfold sysA at h9
     rw [hs] at h9
     exact h9
   · obtain rfl := Option.some.inj (show some [29] = some D from hD)
     have h1 : decide (13 < c) = true := hl 29 (by simp)
     have h2 : decide (14 < c) = false := hu
     obtain rfl : c = 14 := by have := of_decide_eq_true h1; have := of_decide_eq_false h2; omega
     refine ⟨by decide, _, rfl, fun K' hK' => ?_⟩
     clear hD hl hu hi33 hm h1 h2
     unfold sysA
     go_wp2_with (go_at_call 84; refine (pin_any 16 _ [] (by decide) (IntL.nil _)).mono ?_; rintro e u2 ⟨rfl, K⟩)
     exact hK' (gs, 15) u2 (hK.call K (by decide) (fun h => absurd h (by decide))) rfl (sysM_call (by decide))
   · obtain rfl := Option.some.inj (show some [1, 5, 7, 9, 11, 13, 15, 17, 19, 21, 23, 25, 27, 29, 30] = some D from hD)
     have h1 : decide (14 < c) = true := hl 30 (by simp)
     have := hK.le
     exact absurd (sysM_zero hK (by have := of_decide_eq_true h1; omega)) hm
   · obtain rfl := Option.some.inj (show some [31, 30, 0, 1, 2, 3, 4, 5, 6, 7, 8, 9, 10, 11, 12, 13, 14, 15, 16, 17, 18, 19, 20, 21, 22, 23, 24, 25, 26, 27, 28, 29, 30, 31] = some D from hD)
     exact absurd (hl 31 (by simp)) (by intro q; exact Bool.noConfusion q)
 case fin =>
   clear O
   intro s u hm hK
   obtain ⟨gs, c⟩ := s
   dsimp only at hK hm ⊢
   have hc : c = 15 := by unfold sysM at hm; have := hK.le; omega
   subst hc
   have hz := fun j (hj : j < 14) => cnt_zero gs (by unfold sysM at hm; omega) hj
   have hL : sysL gs 15 = #[true, true, true, true, true, true, true, true, true, true, true, true, true, true, true, true, true, true, true, true, true, true, true, true, true, true, true, true, true, true, true, false, false] := by
     unfold sysL
     rw [hz 0 (by decide), hz 1 (by decide), hz 2 (by decide), hz 3 (by decide), hz 4 (by decide), hz 5 (by decide), hz 6 (by decide), hz 7 (by decide), hz 8 (by decide), hz 9 (by decide), hz 10 (by decide), hz 11 (by decide), hz 12 (by decide), hz 13 (by decide)]
     rfl
   rw [hL]
   have O := hK.own
   clear hK hm hz hL
   refine ah_tail (by kernel_rfl) ?_
   try simp only [List.drop]
   unfold sysA
   generalize slotL (gs 0) 2 = v0
   generalize slotL (gs 1) 2 = v1
   generalize slotL (gs 2) 2 = v2
   generalize slotL (gs 3) 3 = v3
   generalize slotL (gs 4) 3 = v4
   generalize slotL (gs 5) 2 = v5
   generalize slotL (gs 6) 1 = v6
   generalize slotL (gs 7) 2 = v7
   generalize slotL (gs 8) 3 = v8
   generalize slotL (gs 9) 1 = v9
   generalize slotL (gs 10) 1 = v10
   generalize slotL (gs 11) 3 = v11
   generalize slotL (gs 12) 2 = v12
   generalize slotL (gs 13) 3 = v13
   refine own_litK 59 97 99 15 4 z99 _ (progR 15 (pqC x)) O rfl rfl rfl Try.underlying97 (by kernel_rfl) (by decide) (by decide) (by first | rfl | kernel_rfl) ?_
   clear O
   intro W g59 O K1 hg
   clear K1 hg
   simp only [Act.put, kA, kZ, kS]
   go_wp2
   refine np_intro ?_
   go_wp2_with (first
     | go_big_skip
     | (refine at_dst 60 rfl ?_; refine own_litI 60 3 [0, 3, 6] O rfl rfl rfl (by decide) (by first | rfl | kernel_rfl) ?_; clear O; intro W g O K; have HI := Lib.hid (O.get 0 rfl); clear K; simp only [Act.put, kA, kZ, kS])
     | (refine at_dst 62 rfl ?_; refine own_litI 62 2 [3, 4] O rfl rfl rfl (by decide) (by first | rfl | kernel_rfl) ?_; clear O; intro W g O K; have HI := Lib.hid (O.get 0 rfl); clear K; simp only [Act.put, kA, kZ, kS])
     | (refine at_dst 64 rfl ?_; refine own_litI 64 2 [0, 4] O rfl rfl rfl (by decide) (by first | rfl | kernel_rfl) ?_; clear O; intro W g O K; have HI := Lib.hid (O.get 0 rfl); clear K; simp only [Act.put, kA, kZ, kS])
     | (refine at_dst 66 rfl ?_; refine own_litI 66 2 [2, 3] O rfl rfl rfl (by decide) (by first | rfl | kernel_rfl) ?_; clear O; intro W g O K; have HI := Lib.hid (O.get 0 rfl); clear K; simp only [Act.put, kA, kZ, kS])
     | (refine at_dst 68 rfl ?_; refine own_litI 68 2 [1, 4] O rfl rfl rfl (by decide) (by first | rfl | kernel_rfl) ?_; clear O; intro W g O K; have HI := Lib.hid (O.get 0 rfl); clear K; simp only [Act.put, kA, kZ, kS])
     | (refine at_dst 70 rfl ?_; refine own_litI 70 3 [0, 0, 0] O rfl rfl rfl (by decide) (by first | rfl | kernel_rfl) ?_; clear O; intro W g O K; have HI := Lib.hid (O.get 0 rfl); clear K; simp only [Act.put, kA, kZ, kS])
     | (refine at_dst 72 rfl ?_; refine own_litI 72 2 [0, -1] O rfl rfl rfl (by decide) (by first | rfl | kernel_rfl) ?_; clear O; intro W g O K; have HI := Lib.hid (O.get 0 rfl); clear K; simp only [Act.put, kA, kZ, kS])
     | (refine at_dst 76 rfl ?_; refine own_litI 76 2 [0, 0] O rfl rfl rfl (by decide) (by first | rfl | kernel_rfl) ?_; clear O; intro W g O K; have HI := Lib.hid (O.get 0 rfl); clear K; simp only [Act.put, kA, kZ, kS])
     | (refine at_dst 79 rfl ?_; refine own_litI 79 2 [1, (b : Int)] O rfl rfl rfl (by decide) (by first | rfl | kernel_rfl) ?_; clear O; intro W g O K; have HI := Lib.hid (O.get 0 rfl); clear K; simp only [Act.put, kA, kZ, kS])
     | (refine at_dst 81 rfl ?_; refine own_litI 81 2 [2, 1] O rfl rfl rfl (by decide) (by first | rfl | kernel_rfl) ?_; clear O; intro W g O K; have HI := Lib.hid (O.get 0 rfl); clear K; simp only [Act.put, kA, kZ, kS])
     | (refine at_dst 83 rfl ?_; refine own_litI 83 3 [0, 1, 5] O rfl rfl rfl (by decide) (by first | rfl | kernel_rfl) ?_; clear O; intro W g O K; have HI := Lib.hid (O.get 0 rfl); clear K; simp only [Act.put, kA, kZ, kS])
     | (refine at_dst 85 rfl ?_; refine own_litI 85 3 [0, 0, 8] O rfl rfl rfl (by decide) (by first | rfl | kernel_rfl) ?_; clear O; intro W g O K; have HI := Lib.hid (O.get 0 rfl); clear K; simp only [Act.put, kA, kZ, kS])
     | (refine at_dst 87 rfl ?_; refine own_litI 87 2 [2, 0] O rfl rfl rfl (by decide) (by first | rfl | kernel_rfl) ?_; clear O; intro W g O K; have HI := Lib.hid (O.get 0 rfl); clear K; simp only [Act.put, kA, kZ, kS])
     | (refine at_dst 89 rfl ?_; refine own_litI 89 2 [0, 2] O rfl rfl rfl (by decide) (by first | rfl | kernel_rfl) ?_; clear O; intro W g O K; have HI := Lib.hid (O.get 0 rfl); clear K; simp only [Act.put, kA, kZ, kS])
     | (refine at_dst 91 rfl ?_; refine own_litI 91 3 [0, 0, 3] O rfl rfl rfl (by decide) (by first | rfl | kernel_rfl) ?_; clear O; intro W g O K; have HI := Lib.hid (O.get 0 rfl); clear K; simp only [Act.put, kA, kZ, kS])
     | (refine at_dst 93 rfl ?_; refine own_litI 93 2 [0, 0] O rfl rfl rfl (by decide) (by first | rfl | kernel_rfl) ?_; clear O; intro W g O K; have HI := Lib.hid (O.get 0 rfl); clear K; simp only [Act.put, kA, kZ, kS])
     | (refine at_dst 96 rfl ?_; refine own_litI 96 2 [1, (J : Int)] O rfl rfl rfl (by decide) (by first | rfl | kernel_rfl) ?_; clear O; intro W g O K; have HI := Lib.hid (O.get 0 rfl); clear K; simp only [Act.put, kA, kZ, kS])
     | (refine at_dst 98 rfl ?_; refine own_litI 98 3 [0, 1, 12] O rfl rfl rfl (by decide) (by first | rfl | kernel_rfl) ?_; clear O; intro W g O K; have HI := Lib.hid (O.get 0 rfl); clear K; simp only [Act.put, kA, kZ, kS])
     | (refine at_dst 100 rfl ?_; refine own_litI 100 3 [0, 0, 17] O rfl rfl rfl (by decide) (by first | rfl | kernel_rfl) ?_; clear O; intro W g O K; have HI := Lib.hid (O.get 0 rfl); clear K; simp only [Act.put, kA, kZ, kS])
     | (refine at_dst 102 rfl ?_; refine own_litI 102 3 [2, 3, 17] O rfl rfl rfl (by decide) (by first | rfl | kernel_rfl) ?_; clear O; intro W g O K; have HI := Lib.hid (O.get 0 rfl); clear K; simp only [Act.put, kA, kZ, kS])
     | (refine at_dst 104 rfl ?_; refine own_litI 104 2 [3, 0] O rfl rfl rfl (by decide) (by first | rfl | kernel_rfl) ?_; clear O; intro W g O K; have HI := Lib.hid (O.get 0 rfl); clear K; simp only [Act.put, kA, kZ, kS])
     | (refine at_dst 106 rfl ?_; refine own_litI 106 2 [0, 3] O rfl rfl rfl (by decide) (by first | rfl | kernel_rfl) ?_; clear O; intro W g O K; have HI := Lib.hid (O.get 0 rfl); clear K; simp only [Act.put, kA, kZ, kS])
     | (refine at_dst 108 rfl ?_; refine own_litI 108 2 [0, 2] O rfl rfl rfl (by decide) (by first | rfl | kernel_rfl) ?_; clear O; intro W g O K; have HI := Lib.hid (O.get 0 rfl); clear K; simp only [Act.put, kA, kZ, kS])
     | (refine at_dst 110 rfl ?_; refine own_litI 110 3 [0, 0, 10] O rfl rfl rfl (by decide) (by first | rfl | kernel_rfl) ?_; clear O; intro W g O K; have HI := Lib.hid (O.get 0 rfl); clear K; simp only [Act.put, kA, kZ, kS])
     | (refine at_dst 112 rfl ?_; refine own_litI 112 1 [0] O rfl rfl rfl (by decide) (by first | rfl | kernel_rfl) ?_; clear O; intro W g O K; have HI := Lib.hid (O.get 0 rfl); clear K; simp only [Act.put, kA, kZ, kS])
     | (refine at_dst 116 rfl ?_; refine own_litI 116 1 [0] O rfl rfl rfl (by decide) (by first | rfl | kernel_rfl) ?_; clear O; intro W g O K; have HI := Lib.hid (O.get 0 rfl); clear K; simp only [Act.put, kA, kZ, kS])
     | (refine at_dst 118 rfl ?_; refine own_litI 118 1 [1] O rfl rfl rfl (by decide) (by first | rfl | kernel_rfl) ?_; clear O; intro W g O K; have HI := Lib.hid (O.get 0 rfl); clear K; simp only [Act.put, kA, kZ, kS])
     | (refine at_dst 75 rfl ?_; refine own_litK 75 97 99 8 4 z99 _ (progR 8 pqW) O rfl rfl rfl Try.underlying97 (by kernel_rfl) (by decide) (by decide) (by first | rfl | kernel_rfl) ?_; clear O; intro W g75 O K1 hg; clear K1 hg; simp only [Act.put, kA, kZ, kS])
     | (refine at_dst 115 rfl ?_; refine own_litK 115 97 99 19 4 z99 _ (progR 19 (pqF b J)) O rfl rfl rfl Try.underlying97 (by kernel_rfl) (by decide) (by decide) (by first | rfl | kernel_rfl) ?_; clear O; intro W g115 O K1 hg; clear K1 hg; simp only [Act.put, kA, kZ, kS])
     | (refine at_dst 121 rfl ?_; refine own_litK 121 97 99 3 4 z99 _ (progR 3 pqK) O rfl rfl rfl Try.underlying97 (by kernel_rfl) (by decide) (by decide) (by first | rfl | kernel_rfl) ?_; clear O; intro W g121 O K1 hg; clear K1 hg; simp only [Act.put, kA, kZ, kS])
     | (refine at_dst 126 rfl ?_; refine own_litK 126 24 97 4 1 (.slice none 0 0) _ #[.slice (some ⟨g59, 0, none⟩) 15 15, .slice (some ⟨g75, 0, none⟩) 8 8, .slice (some ⟨g115, 0, none⟩) 19 19, .slice (some ⟨g121, 0, none⟩) 3 3] O rfl rfl rfl Try.underlying24 (by kernel_rfl) (by decide) (by decide) (by first | rfl | kernel_rfl) ?_; clear O; intro W g126 O K1 hg; clear K1 hg; have c3 : W.cell? ⟨b3, 1, none⟩ = some (.int .i64 (y : Int)) := (O.get 6 rfl).cell 1; simp only [Act.put, kA, kZ, kS])
     | (refine at_dst 132 rfl ?_; refine own_litK 132 25 3 3 1 (.int .i64 0) _ (litA [(y : Int), (y : Int), (b : Int)]) O rfl rfl rfl Try.underlying25 (by kernel_rfl) (by decide) (by decide) (by first | rfl | kernel_rfl) ?_; clear O c3; intro W g132 O K1 hg; clear K1 hg; simp only [Act.put, kA, kZ, kS])
     | (refine own_store_rowK 6 (.tmp 4) (.tmp 134) (cs' := sysV (poolS x y b J) (some ⟨g126, 0, none⟩) 4 (some ⟨g132, 0, none⟩) 3) O rfl rfl rfl rfl rfl rfl (by kernel_rfl) (by rfl) (by simp [sysV, Value.oneCell']) ?_; clear O; intro W O K1; clear K1; simp only [kZ, kS] at O)
     | (go_at_call 84; refine (pin_lit _ HI.out (by simp)).mono ?_; rintro e W ⟨rfl, K⟩; replace O := (O.keeps K).drop_ 1; clear K HI)
     | (go_at_call 84; refine (pin_any 16 _ [] (by decide) (IntL.nil _)).mono ?_; rintro e W ⟨rfl, K⟩; replace O := O.keeps K; clear K))
   refine bodyPost_ret (results_cell2 rfl _ _ b4 27 _ _ _ rfl (O.get 6 rfl) Try.underlying27 rfl (by kernel_rfl)) rfl ⟨some ⟨g126, 0, none⟩, 4, some ⟨g132, 0, none⟩, 3, rfl, ⟨fun _ => ⟨_, rfl, O.lt 1 rfl, fun p hp => ?_⟩, fun _ => ⟨_, rfl, O.lt 0 rfl, fun j hj => ?_⟩, Nat.le_refl _, by simp [maxLen], Nat.le_refl _, by simp [maxLen]⟩, O.keep⟩
   · have hp' : p = 0 ∨ p = 1 ∨ p = 2 ∨ p = 3 := by have h : p < 4 := hp; omega
     rcases hp' with rfl | rfl | rfl | rfl
     · exact ⟨some ⟨g59, 0, none⟩, 15, by rw [blk_add (O.get 1 rfl)]; rfl, Nat.le_refl _, by simp [maxLen], insts_of (O.get 5 rfl) pqC_len fun i _ => rfl⟩
     · exact ⟨some ⟨g75, 0, none⟩, 8, by rw [blk_add (O.get 1 rfl)]; rfl, Nat.le_refl _, by simp [maxLen], insts_of (O.get 4 rfl) pqW_len fun i _ => rfl⟩
     · exact ⟨some ⟨g115, 0, none⟩, 19, by rw [blk_add (O.get 1 rfl)]; rfl, Nat.le_refl _, by simp [maxLen], insts_of (O.get 3 rfl) pqF_len fun i _ => rfl⟩
     · exact ⟨some ⟨g121, 0, none⟩, 3, by rw [blk_add (O.get 1 rfl)]; rfl, Nat.le_refl _, by simp [maxLen], insts_of (O.get 2 rfl) pqK_len fun i _ => rfl⟩
   · have hj' : j = 0 ∨ j = 1 ∨ j = 2 := by have h : j < 3 := hj; omega
     rw [blk_add (O.get 0 rfl)]
     rcases hj' with rfl | rfl | rfl <;> rfl
end
open Go.ChangeShapes Go.WideShapes Go.RowKit Go.Maps Go.Deep
section
variable {w : World}
theorem pl_nat {x y : Int} (h : plB x y = true) : ∃ a b : Nat, x = (a : Int) ∧ y = (b : Int) ∧ 1 ≤ a ∧ a ≤ 256 ∧ 1 ≤ b ∧ b ≤ 1024 := by
 simp only [plB, decide_eq_true_eq] at h
 exact ⟨x.toNat, y.toNat, by omega, by omega, by omega, by omega, by omega, by omega⟩
end
end Go.Proofs.Ytakmcpadkanggaa

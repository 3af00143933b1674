/-
  Plain law: a round can be undone, both ways, and keeps states apart.
-/
import Derived.Test.YtanibkocihjgjaaS6
namespace Go.Proofs.Ytanibkocihjgjaa

theorem rotl_back {n : Nat} (x : BitVec n) (k : Nat) (h0 : 0 < k) (hk : k < n) : (x.rotateLeft k).rotateLeft (n - k) = x := by
  apply BitVec.eq_of_getLsbD_eq
  intro i hi
  have hm : (n - k) % n = n - k := Nat.mod_eq_of_lt (by omega)
  have hm2 : k % n = k := Nat.mod_eq_of_lt hk
  rw [BitVec.getLsbD_rotateLeft, BitVec.getLsbD_rotateLeft, BitVec.getLsbD_rotateLeft, hm, hm2]
  simp only [cond_eq_ite, decide_eq_true_eq]
  by_cases h : i < n - k
  · rw [if_pos h, show n - (n - k) + i = k + i from by omega, if_neg (by omega), show k + i - k = i from by omega]
    simp; omega
  · rw [if_neg h, if_pos (show i - (n - k) < k by omega), show n - k + (i - (n - k)) = i from by omega]
    simp [hi]
theorem rotl_back' {n : Nat} (x : BitVec n) (k : Nat) (h0 : 0 < k) (hk : k < n) : (x.rotateLeft (n - k)).rotateLeft k = x := by
  have h := rotl_back x (n - k) (by omega) (by omega)
  rwa [show n - (n - k) = k from by omega] at h

/-- One statement of G: place i is written out of places i and j. -/
def ap (i j : Nat) (f : BitVec 32 → BitVec 32 → BitVec 32) (V : Nat → BitVec 32) : Nat → BitVec 32 := upd V i (f (V i) (V j))
theorem ap_undo {i j : Nat} (hij : i ≠ j) {f g : BitVec 32 → BitVec 32 → BitVec 32} (h : ∀ u v, g (f u v) v = u) (V : Nat → BitVec 32) : ap i j g (ap i j f V) = V := by
  funext n
  have hji : ¬ j = i := fun e => hij e.symm
  by_cases hn : n = i
  · subst hn; simp [ap, upd, hji, h]
  · simp [ap, upd, hn]
theorem ap_cong {i j : Nat} (hi : i < 16) (hj : j < 16) (f : BitVec 32 → BitVec 32 → BitVec 32) {V V' : Nat → BitVec 32} (h : ∀ n, n < 16 → V n = V' n) : ∀ n, n < 16 → ap i j f V n = ap i j f V' n := by
  intro n hn
  by_cases e : n = i <;> simp [ap, upd, e, h _ hi, h _ hj, h _ hn]

def fx (x u v : BitVec 32) := u + (v + x)
def gx (x u v : BitVec 32) := u - (v + x)
def fr (k : Nat) (u v : BitVec 32) := (u ^^^ v).rotateLeft k
def gr (k : Nat) (u v : BitVec 32) := u.rotateLeft k ^^^ v
def fp (u v : BitVec 32) := u + v
def gp (u v : BitVec 32) := u - v
theorem fx_gx (x u v : BitVec 32) : gx x (fx x u v) v = u := by simp [fx, gx, BitVec.add_sub_cancel]
theorem gx_fx (x u v : BitVec 32) : fx x (gx x u v) v = u := by simp [fx, gx, BitVec.sub_add_cancel]
theorem fp_gp (u v : BitVec 32) : gp (fp u v) v = u := by simp [fp, gp, BitVec.add_sub_cancel]
theorem gp_fp (u v : BitVec 32) : fp (gp u v) v = u := by simp [fp, gp, BitVec.sub_add_cancel]
theorem xor_twice (u v : BitVec 32) : u ^^^ v ^^^ v = u := by rw [BitVec.xor_assoc, BitVec.xor_self, BitVec.xor_zero]
theorem fr_gr (k : Nat) (h0 : 0 < k) (hk : k < 32) (u v : BitVec 32) : gr (32 - k) (fr k u v) v = u := by
  unfold fr gr
  rw [rotl_back _ k h0 hk, xor_twice]
theorem gr_fr (k : Nat) (h0 : 0 < k) (hk : k < 32) (u v : BitVec 32) : fr k (gr (32 - k) u v) v = u := by
  unfold fr gr
  rw [xor_twice, rotl_back' _ k h0 hk]

theorem mixV_eq (V : Nat → BitVec 32) (a b c d : Nat) (x y : BitVec 32) :
    mixV V a b c d x y = ap b c (fr 25) (ap c d fp (ap d a (fr 24) (ap a b (fx y) (ap b c (fr 20) (ap c d fp (ap d a (fr 16) (ap a b (fx x) V))))))) := rfl
theorem unmV_eq (V : Nat → BitVec 32) (a b c d : Nat) (x y : BitVec 32) :
    unmV V a b c d x y = ap a b (gx x) (ap d a (gr 16) (ap c d gp (ap b c (gr 12) (ap a b (gx y) (ap d a (gr 8) (ap c d gp (ap b c (gr 7) V))))))) := rfl

section
variable (V : Nat → BitVec 32) (a b c d : Nat) (x y : BitVec 32) (hab : a ≠ b) (hbc : b ≠ c) (hcd : c ≠ d) (hda : d ≠ a)
include hab hbc hcd hda
theorem back_step : unmV (mixV V a b c d x y) a b c d x y = V := by
  rw [mixV_eq, unmV_eq, ap_undo hbc (fr_gr 25 (by omega) (by omega)), ap_undo hcd fp_gp, ap_undo hda (fr_gr 24 (by omega) (by omega)), ap_undo hab (fx_gx y),
    ap_undo hbc (fr_gr 20 (by omega) (by omega)), ap_undo hcd fp_gp, ap_undo hda (fr_gr 16 (by omega) (by omega)), ap_undo hab (fx_gx x)]
theorem step_back : mixV (unmV V a b c d x y) a b c d x y = V := by
  rw [mixV_eq, unmV_eq, ap_undo hab (gx_fx x), ap_undo hda (gr_fr 16 (by omega) (by omega)), ap_undo hcd gp_fp, ap_undo hbc (gr_fr 20 (by omega) (by omega)),
    ap_undo hab (gx_fx y), ap_undo hda (gr_fr 24 (by omega) (by omega)), ap_undo hcd gp_fp, ap_undo hbc (gr_fr 25 (by omega) (by omega))]
end
theorem step_cong {a b c d : Nat} (x y : BitVec 32) (ha : a < 16) (hb : b < 16) (hc : c < 16) (hd : d < 16) {V V' : Nat → BitVec 32} (h : ∀ n, n < 16 → V n = V' n) : ∀ n, n < 16 → mixV V a b c d x y n = mixV V' a b c d x y n := by
  rw [mixV_eq, mixV_eq]
  exact ap_cong hb hc _ (ap_cong hc hd _ (ap_cong hd ha _ (ap_cong ha hb _ (ap_cong hb hc _ (ap_cong hc hd _ (ap_cong hd ha _ (ap_cong ha hb _ h)))))))
theorem back_cong {a b c d : Nat} (x y : BitVec 32) (ha : a < 16) (hb : b < 16) (hc : c < 16) (hd : d < 16) {V V' : Nat → BitVec 32} (h : ∀ n, n < 16 → V n = V' n) : ∀ n, n < 16 → unmV V a b c d x y n = unmV V' a b c d x y n := by
  rw [unmV_eq, unmV_eq]
  exact ap_cong ha hb _ (ap_cong hd ha _ (ap_cong hc hd _ (ap_cong hb hc _ (ap_cong ha hb _ (ap_cong hd ha _ (ap_cong hc hd _ (ap_cong hb hc _ h)))))))

theorem rnd_cong (M : Nat → BitVec 32) (q : Nat) {V V' : Nat → BitVec 32} (h : ∀ n, n < 16 → V n = V' n) : ∀ k, k ≤ 8 → ∀ n, n < 16 → rndK M q V k n = rndK M q V' k n
  | 0, _ => h
  | k + 1, hk => step_cong _ _ (pl_lt k 0 (by omega) (by omega)) (pl_lt k 1 (by omega) (by omega)) (pl_lt k 2 (by omega) (by omega)) (pl_lt k 3 (by omega) (by omega)) (rnd_cong M q h k (by omega))
theorem bck_cong (M : Nat → BitVec 32) (q : Nat) {V V' : Nat → BitVec 32} (h : ∀ n, n < 16 → V n = V' n) : ∀ k, k ≤ 8 → ∀ n, n < 16 → bckK M q V k n = bckK M q V' k n
  | 0, _ => h
  | k + 1, hk => back_cong _ _ (pl_lt (7 - k) 0 (by omega) (by omega)) (pl_lt (7 - k) 1 (by omega) (by omega)) (pl_lt (7 - k) 2 (by omega) (by omega)) (pl_lt (7 - k) 3 (by omega) (by omega)) (bck_cong M q h k (by omega))

/-- j steps back from the round's end is the state behind 8 - j steps. -/
theorem bck_rnd (M : Nat → BitVec 32) (q : Nat) (V : Nat → BitVec 32) : ∀ j, j ≤ 8 → bckK M q (rndK M q V 8) j = rndK M q V (8 - j)
  | 0, _ => rfl
  | j + 1, hj => by
    have hp := pl_ne (7 - j) (by omega)
    show unmV (bckK M q (rndK M q V 8) j) _ _ _ _ _ _ = _
    rw [bck_rnd M q V j (by omega), show 8 - j = (7 - j) + 1 from by omega]
    show unmV (mixV (rndK M q V (7 - j)) _ _ _ _ _ _) _ _ _ _ _ _ = _
    rw [back_step _ _ _ _ _ _ _ hp.1 hp.2.2.2.1 hp.2.2.2.2.2 (Ne.symm hp.2.2.1), show 8 - (j + 1) = 7 - j from by omega]
theorem rnd_bck (M : Nat → BitVec 32) (q : Nat) (V : Nat → BitVec 32) : ∀ k, k ≤ 8 → rndK M q (bckK M q V 8) k = bckK M q V (8 - k)
  | 0, _ => rfl
  | k + 1, hk => by
    have hp := pl_ne k (by omega)
    show mixV (rndK M q (bckK M q V 8) k) _ _ _ _ _ _ = _
    rw [rnd_bck M q V k (by omega), show 8 - k = (7 - k) + 1 from by omega]
    show mixV (unmV (bckK M q V (7 - k)) (pl (7 - (7 - k)) 0) (pl (7 - (7 - k)) 1) (pl (7 - (7 - k)) 2) (pl (7 - (7 - k)) 3) (M (sig q (2 * (7 - (7 - k))))) (M (sig q (2 * (7 - (7 - k)) + 1)))) _ _ _ _ _ _ = _
    rw [show 7 - (7 - k) = k from by omega, step_back _ _ _ _ _ _ _ hp.1 hp.2.2.2.1 hp.2.2.2.2.2 (Ne.symm hp.2.2.1), show 8 - (k + 1) = 7 - k from by omega]
theorem back_round (V M : Nat → BitVec 32) (q : Nat) : backV (roundV V M q) M q = V := bck_rnd M q V 8 (by omega)
theorem round_back (V M : Nat → BitVec 32) (q : Nat) : roundV (backV V M q) M q = V := rnd_bck M q V 8 (by omega)
theorem round_apart (V V' M : Nat → BitVec 32) (q : Nat) : eqW 16 (roundV V M q) (roundV V' M q) = eqW 16 V V' := by
  rw [Bool.eq_iff_iff, eqW_iff, eqW_iff]
  constructor
  · intro h
    have := bck_cong M q h 8 (by omega)
    have e1 := back_round V M q
    have e2 := back_round V' M q
    unfold backV at e1 e2
    rwa [e1, e2] at this
  · intro h
    exact rnd_cong M q h 8 (by omega)
end Go.Proofs.Ytanibkocihjgjaa

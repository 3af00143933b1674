/-
  For the laws on the states: blocks that a call hands over; a drawn region that only reads.
-/
import Derived.Test.YtanibkocihjgjaaS9
namespace Go.Proofs.Ytanibkocihjgjaa
open Go.RowKit

theorem Own.fresh {w W W' : World} {S : List Nat} {L : List Ent} {g : Nat} {t : TypeId} {cs : Array Value} (O : Own w W S L) (K : Keeps W W' []) (hg : W.heap.size ≤ g) (B : Blk W' g t cs) : Own w W' S ((g, t, cs) :: L) := by
  have O' := O.keeps K
  refine ⟨O'.keep, fun e he => ?_, fun e he hlt => ?_, ?_⟩
  · rcases List.mem_cons.1 he with rfl | he
    · exact B
    · exact O'.blk e he
  · rcases List.mem_cons.1 he with rfl | he
    · have := O.keep.size; simp only at hlt; omega
    · exact O'.new e he hlt
  · rw [List.map_cons, List.nodup_cons]
    refine ⟨fun hm => ?_, O'.nd⟩
    obtain ⟨e, he, hq⟩ := List.mem_map.1 hm
    have := (O.blk e he).lt
    simp only at hq
    omega
theorem wp_quiet_drawn {P : Program} {id : Nat} {Q : Exit → Act → World → Prop} {a : Act} {w : World} {l : List Oper} (hm : P.follows .mixedOrders = true) (hB : Region.lexB .any l.toArray = true)
    (h : wpQuiet P l.toArray (fun u => ∃ n, u = w.drewN n) (fun a' => ∀ w', (∃ n, w' = w.drewN n) → Q .normal a' w') l a) : (Code.region id l.toArray true).wp P Q a w :=
  wp_region_quiet (C := fun u => ∃ n, u = w.drewN n) hm hB ⟨1, rfl⟩ (by simpa using h)
end Go.Proofs.Ytanibkocihjgjaa

/- Words for the rows: an argument that is a slice of texts. -/
import Derived.Test.YthgjckibnojnpaaWSized
import Derived.Test.YthgjckibnojnpaaMem
import Derived.SliceStrings
import Derived.SizedLaws
set_option linter.unusedVariables false
set_option linter.unusedSimpArgs false
namespace Go.Proofs.Ythgjckibnojnpaa
open Go.ChangeShapes Go.WideShapes Go.RowKit Go.Proofs.YthgjckibnojnpaaW.PrintWords

/-- A slice of texts that came in: it reads as a list, which is no longer than its weight allows. -/
theorem open_strs {H : Type} {enc : TypeId × Value → H} {P : Program} {W : World} {base : Nat} {spare : Nat → Bool} {held : Bool} {t e : TypeId} {a : Option Addr} {len cap : Nat} {d : DataW H} {ps : List MemPlace} {ts : List TypeId} {ds : List (DataW H)} {j : Nat}
    (hsz : (DataW.weightsEach P ts ds).all (· ≤ reachBytes) = true) (ht : ts[j]? = some t) (hd : ds[j]? = some d) (hu : P.underlying t = some (.slice e)) (he : P.underlying e = some .string) (hc : P.cellsOf e = 1) (hB : P.bytesOf e = 16)
    (h : DataW.Trod enc P W base spare held t (.slice a len cap) d ps) :
    ∃ l : List ByteArray, l.length = len ∧ len ≤ cap ∧ Kd.C Kd.string W a len l ∧ len * 16 ≤ 140737488351232 := by
  obtain ⟨fuel, hf⟩ := h
  rcases open_strings hu he hc hf with ⟨hcs, _⟩ | ⟨x, l, c, ss, hcs, _, hl, hm, hz, hx, hcell, hs⟩
  · simp [Value.cells] at hcs
    obtain ⟨rfl, rfl, rfl⟩ := hcs
    exact ⟨[], rfl, Nat.le_refl _, ⟨rfl, by simp, fun h => absurd h (by simp)⟩, by simp⟩
  · simp [Value.cells] at hcs
    obtain ⟨rfl, rfl, rfl⟩ := hcs
    obtain ⟨hx, _⟩ := Prod.mk.inj hx
    subst hx
    have hl2 : len ≤ ss.length := by
      rw [hz]
      split
      · exact hl
      · exact Nat.le_refl _
    have z := sized_slice hsz ht hd hu
    rw [hB] at z
    have h1 : (strs (H := H) (ss.take len)).length + (strs (H := H) (ss.drop len)).length = ss.length := by
      simp [strs]
      omega
    rw [h1] at z
    have hlen : (ss.take len).length = len := by rw [List.length_take]; omega
    unfold maxLen at hm
    refine ⟨ss.take len, hlen, hl, ⟨hlen, by omega, fun hp => ⟨x, rfl, fun i p hi => ⟨[.string p], rfl, rfl, fun q u hq => ?_⟩⟩⟩, Nat.le_trans (Nat.mul_le_mul_right _ hl2) z⟩
    have hq0 : q = 0 := by
      rcases Nat.eq_zero_or_pos q with h | h
      · exact h
      · rw [List.getElem?_eq_none (by simp; omega)] at hq; cases hq
    subst hq0
    simp only [List.getElem?_cons_zero, Option.some.injEq] at hq
    subst hq
    have hi' : i < len := by have := (List.getElem?_eq_some_iff.1 hi).1; omega
    have hsz1 : Kd.string.sz = 1 := rfl
    rw [hsz1, Nat.mul_one, Nat.add_zero, hcell i (by omega)]
    rw [List.getElem?_take_of_lt hi'] at hi
    rw [List.getD_eq_getElem?_getD, hi]
    rfl
end Go.Proofs.Ythgjckibnojnpaa

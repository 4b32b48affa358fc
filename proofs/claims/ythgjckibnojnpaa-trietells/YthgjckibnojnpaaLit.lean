/- Literals: a row that the text writes out; sets of constant texts. -/
import Derived.Test.YthgjckibnojnpaaSetM
import Derived.Test.YthgjckibnojnpaaRef10
set_option linter.unusedVariables false
set_option linter.unusedSimpArgs false
namespace Go.Proofs.Ythgjckibnojnpaa
open Go.RowKit Go.Proofs.YthgjckibnojnpaaW.PrintWords Pl

theorem litC {α : Type} (enc : α → Value) (h1 : ∀ x, (enc x).oneCell' = true) (w : World) (t : TypeId) (xs : List α) (hl : xs.length ≤ 9223372036854775807) :
    Kd.C (Kd.scalar enc h1) (w.alloc (.cells (xs.map enc).toArray t)) (some ⟨w.heap.size, 0, none⟩) xs.length xs := by
  refine ⟨rfl, hl, fun _ => ⟨_, rfl, fun j p hj => ⟨[enc p], rfl, rfl, fun i u hu => ?_⟩⟩⟩
  have hi : i = 0 := by
    rcases Nat.eq_zero_or_pos i with h | h
    · exact h
    · rw [List.getElem?_eq_none (by simp; omega)] at hu; cases hu
  subst hi
  simp only [List.getElem?_cons_zero, Option.some.injEq] at hu
  subst hu
  have ha : (⟨w.heap.size, 0, none⟩ : Addr).add (j * (Kd.scalar enc h1).sz + 0) = ⟨w.heap.size, j, none⟩ := by
    have : (Kd.scalar enc h1).sz = 1 := rfl
    rw [this, Nat.mul_one, Nat.add_zero, add_plain]
  rw [ha]
  have := (Blk.new w t (xs.map enc).toArray).cell j
  rw [this]
  simp [hj]
theorem newE_ok {xs : List ByteArray} (h0 : xs ≠ []) (h1 : xs.length ≤ 65535) (hb : bad xs = 0) (ht : total xs ≤ 16777216) (hn : xs.Nodup) : newE xs = 0 := by
  unfold newE
  rw [if_neg h0, if_neg (by omega), if_neg (by rw [hb]; simp), if_neg (by omega), if_pos hn]
theorem srt_id {xs : List ByteArray} (h : xs.Pairwise (fun a b => leT a b = true)) : srt xs = xs := (srt_unique (List.Perm.refl _) h).symm
/-- What a set's list is when there is one. -/
theorem newE_tame {xs : List ByteArray} (h : newE xs = 0) : xs ≠ [] ∧ xs.length ≤ 65535 ∧ (∀ s ∈ xs, 0 < s.size ∧ s.size ≤ 65535) ∧ total xs ≤ 16777216 ∧ xs.Nodup := by
  unfold newE at h
  by_cases h0 : xs = []
  · rw [if_pos h0] at h; omega
  rw [if_neg h0] at h
  by_cases h1 : 65535 < xs.length
  · rw [if_pos h1] at h; omega
  rw [if_neg h1] at h
  by_cases hb : bad xs = 0
  · rw [if_neg (by rw [hb]; simp)] at h
    by_cases ht : 16777216 < total xs
    · rw [if_pos ht] at h; omega
    rw [if_neg ht] at h
    by_cases hn : xs.Nodup
    · exact ⟨h0, by omega, bad_zero.1 hb, by omega, hn⟩
    · rw [if_neg hn] at h; omega
  · rw [if_pos hb] at h; exact absurd h hb
end Go.Proofs.Ythgjckibnojnpaa

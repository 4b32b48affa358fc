/- The set of texts, as both sides have it: what every law begins with. -/
import Derived.Test.YthgjckibnojnpaaLit
import Derived.Test.YthgjckibnojnpaaRefFew
import Derived.Test.YthgjckibnojnpaaPats
set_option linter.unusedVariables false
set_option linter.unusedSimpArgs false
namespace Go.Proofs.Ythgjckibnojnpaa
open Go.RowKit Go.Proofs.YthgjckibnojnpaaW.PrintWords PA Pl

/-- Texts that fit, none empty, not too many. -/
structure Tame (xs : List ByteArray) : Prop where
  len : xs.length ≤ 65535
  size : ∀ s ∈ xs, 0 < s.size ∧ s.size ≤ 65535
theorem Tame.least {xs : List ByteArray} (h : Tame xs) : 0 ≤ least xs ∧ least xs ≤ 65535 := by
  rcases (least_spec xs).2 with rfl | ⟨s, hs, h2⟩
  · simp [Pl.least]
  · have := h.size s hs; omega
/-! The set of texts, as both sides have it. -/
def theSet (l : List ByteArray) : List ByteArray := if newE l = 0 then srt l else []
theorem theSet_mem {l : List ByteArray} {s : ByteArray} (h : s ∈ theSet l) : newE l = 0 ∧ s ∈ l := by
  unfold theSet at h
  by_cases h0 : newE l = 0
  · rw [if_pos h0] at h
    exact ⟨h0, (srt_perm l).mem_iff.1 h⟩
  · rw [if_neg h0] at h; cases h
theorem theSet_length (l : List ByteArray) : (theSet l).length ≤ l.length := by
  unfold theSet
  split
  · rw [srt_length]; exact Nat.le_refl _
  · exact Nat.zero_le _
theorem theSet_tame (l : List ByteArray) : Tame (theSet l) := by
  by_cases h0 : newE l = 0
  · have h := newE_tame h0
    exact ⟨by have := theSet_length l; omega, fun s hs => h.2.2.1 s (theSet_mem hs).2⟩
  · have : theSet l = [] := by unfold theSet; rw [if_neg h0]
    rw [this]
    exact ⟨by simp, fun s hs => by cases hs⟩
theorem Tame.fit {xs : List ByteArray} (h : Tame xs) : Fit xs := fun s hs => by have := h.size s hs; omega
theorem newSet (A : Option Addr) (c : Nat) (xs : List ByteArray) (w : World) (hr : Kd.C Kd.string w A xs.length xs) (hf : Fit xs) :
    Calls Try.prog 17 #[.slice A xs.length c] w fun e w' => ∃ v, e = .returned (.tuple #[v, .int .i64 (newE xs)]) ∧ SetV w' v (theSet xs) ∧ Below w.heap.size w w' := new_any A c xs w hr hf
theorem refSet (A : Option Addr) (c : Nat) (xs : List ByteArray) (w : World) (hr : Kd.C Kd.string w A xs.length xs) (hc : xs.length ≤ c) :
    Calls Try.prog 18 #[.slice A xs.length c] w fun e w' => ∃ v, e = .returned (.tuple #[v, .int .i64 (newE xs)]) ∧ SlS w' v (theSet xs) ∧ Below w.heap.size w w' := by
  obtain ⟨k, hk⟩ := (newR_ev xs).rounds
  exact (juratref10_New.calls k A c xs _ _ w hr hc hk).mono fun _ _ ⟨v, h1, h2, h3⟩ => ⟨v, h1, Sl.of_R h2, h3⟩
theorem fewCall (A : Option Addr) (c : Nat) (xs : List ByteArray) (a b : Int) (w : World) (hr : Kd.C Kd.string w A xs.length xs) (hc : xs.length ≤ c) (hl : xs.length ≤ 9223372036854775806) :
    Calls Try.prog 15 #[.slice A xs.length c, .int .i64 a, .int .i64 b] w fun e w' => e = .returned (.bool (few xs a b)) ∧ ∃ n, w' = w.drewN n := by
  obtain ⟨k, hk⟩ := (few_ev xs a b hl).rounds
  exact (juratref09_Few.calls k A c xs a b _ w hr hc hk).mono fun _ _ ⟨h1, h2⟩ => ⟨h1, h2.out⟩

theorem few_iff {xs : List ByteArray} {a b : Int} : few xs a b = true ↔ (xs.length : Int) ≤ a ∧ ∀ s ∈ xs, (s.size : Int) ≤ b := by
  simp [few]
end Go.Proofs.Ythgjckibnojnpaa

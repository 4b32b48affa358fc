/- The plain side of sets: how long patterns are; the block of a set. -/
import Derived.Test.YthgjckibnojnpaaMem
import Derived.Test.YthgjckibnojnpaaOrd
namespace Go.Proofs.Ythgjckibnojnpaa
open Go.RowKit Go.Proofs.YthgjckibnojnpaaW.PrintWords Pl

namespace Pl
/-- How many bytes in all. -/
def total (l : List ByteArray) : Int := l.foldl (fun n s => n + (s.size : Int)) 0
/-- Of the shortest one. -/
def least : List ByteArray → Int
  | [] => 0
  | s :: l => l.foldl (fun n t => min n (t.size : Int)) (s.size : Int)
/-- Of the longest one. -/
def most (l : List ByteArray) : Int := l.foldl (fun n s => max n (s.size : Int)) 0
/-- What is wrong with a text by itself. -/
def bad1 (s : ByteArray) : Int := if s.size = 0 then 7 else if 65535 < s.size then 5 else 0
/-- What is wrong with the first bad one. -/
def bad : List ByteArray → Int
  | [] => 0
  | s :: l => if bad1 s ≠ 0 then bad1 s else bad l
theorem bad1_zero {s : ByteArray} : bad1 s = 0 ↔ 0 < s.size ∧ s.size ≤ 65535 := by
  unfold bad1
  split
  · simp; omega
  · split <;> simp <;> omega
theorem bad_zero : ∀ {l : List ByteArray}, bad l = 0 ↔ ∀ s ∈ l, 0 < s.size ∧ s.size ≤ 65535
  | [] => by simp [bad]
  | s :: l => by
    unfold bad
    by_cases h : bad1 s = 0
    · simp only [h, ne_eq, not_true, if_false, List.mem_cons, forall_eq_or_imp]
      rw [bad_zero]
      exact ⟨fun h2 => ⟨bad1_zero.1 h, h2⟩, fun h2 => h2.2⟩
    · simp only [h, ne_eq, not_false_iff, if_true, false_iff]
      intro h2
      exact h (bad1_zero.2 (h2 s (List.mem_cons_self)))
theorem bad_at : ∀ {l : List ByteArray} {k : Nat} (hk : k < l.length), (∀ s ∈ l.take k, bad1 s = 0) → bad1 l[k] ≠ 0 → bad l = bad1 l[k]
  | s :: l, 0, hk, _, h => by simp at h; simp [bad, h]
  | s :: l, k + 1, hk, h0, h => by
    have h1 : bad1 s = 0 := h0 s (by simp)
    have := bad_at (l := l) (k := k) (by simpa using hk) (fun s hs => h0 s (by simp [hs])) (by simpa using h)
    simp [bad, h1, this]

/-- The error of a set of texts; 0: none. -/
def newE (l : List ByteArray) : Int :=
  if l = [] then 14 else if 65535 < l.length then 6 else if bad l ≠ 0 then bad l else if 16777216 < total l then 13 else open Classical in if l.Nodup then 0 else 8

theorem total_snoc (l : List ByteArray) (s : ByteArray) : total (l ++ [s]) = total l + (s.size : Int) := by simp [total]
theorem total_le (l : List ByteArray) (m : Nat) (h : ∀ s ∈ l, s.size ≤ m) : 0 ≤ total l ∧ total l ≤ l.length * m := by
  unfold total
  suffices H : ∀ (l : List ByteArray) (n : Int), (∀ s ∈ l, s.size ≤ m) → n ≤ l.foldl (fun n s => n + (s.size : Int)) n ∧ l.foldl (fun n s => n + (s.size : Int)) n ≤ n + l.length * m by
    have := H l 0 h
    omega
  intro l
  induction l with
  | nil => intro n _; simp
  | cons s l ih =>
    intro n h
    have h1 := ih (n + s.size) (fun t ht => h t (List.mem_cons_of_mem _ ht))
    have h2 := h s (List.mem_cons_self)
    simp only [List.foldl_cons, List.length_cons]
    have h3 : ((l.length + 1 : Nat) : Int) * m = l.length * m + m := by rw [Int.natCast_add, Int.add_mul]; simp
    omega
theorem total_perm {l m : List ByteArray} (h : l.Perm m) : total l = total m := h.foldl_eq' (fun x _ y _ z => by omega) 0
theorem most_snoc (l : List ByteArray) (s : ByteArray) : most (l ++ [s]) = max (most l) (s.size : Int) := by simp [most]
theorem most_perm {l m : List ByteArray} (h : l.Perm m) : most l = most m := h.foldl_eq' (fun x _ y _ z => by omega) 0
theorem most_spec (l : List ByteArray) : 0 ≤ most l ∧ (∀ s ∈ l, (s.size : Int) ≤ most l) ∧ (l = [] ∨ ∃ s ∈ l, (s.size : Int) = most l) := by
  unfold most
  suffices H : ∀ (l : List ByteArray) (n : Int), n ≤ l.foldl (fun n s => max n (s.size : Int)) n ∧ (∀ s ∈ l, (s.size : Int) ≤ l.foldl (fun n s => max n (s.size : Int)) n) ∧
      (l.foldl (fun n s => max n (s.size : Int)) n = n ∨ ∃ s ∈ l, (s.size : Int) = l.foldl (fun n s => max n (s.size : Int)) n) by
    obtain ⟨h1, h2, h3⟩ := H l 0
    refine ⟨h1, h2, ?_⟩
    cases l with
    | nil => exact .inl rfl
    | cons s l =>
      rcases h3 with h3 | h3
      · refine .inr ⟨s, List.mem_cons_self, ?_⟩
        have := h2 s List.mem_cons_self
        rw [h3] at this ⊢
        omega
      · exact .inr h3
  intro l
  induction l with
  | nil => intro n; simp
  | cons s l ih =>
    intro n
    simp only [List.foldl_cons]
    obtain ⟨h1, h2, h3⟩ := ih (max n (s.size : Int))
    refine ⟨by omega, ?_, ?_⟩
    · intro t ht
      rcases List.mem_cons.1 ht with rfl | ht
      · omega
      · exact h2 t ht
    · rcases h3 with h3 | ⟨t, ht, h3⟩
      · by_cases hn : n < (s.size : Int)
        · exact .inr ⟨s, List.mem_cons_self, by omega⟩
        · exact .inl (by omega)
      · exact .inr ⟨t, List.mem_cons_of_mem _ ht, h3⟩
theorem least_snoc (l : List ByteArray) (s : ByteArray) (h : l ≠ []) : least (l ++ [s]) = min (least l) (s.size : Int) := by
  cases l with
  | nil => exact absurd rfl h
  | cons t l => simp [least]
theorem least_spec (l : List ByteArray) : (∀ s ∈ l, least l ≤ (s.size : Int)) ∧ (l = [] ∨ ∃ s ∈ l, (s.size : Int) = least l) := by
  cases l with
  | nil => simp
  | cons t l =>
    suffices H : ∀ (l : List ByteArray) (n : Int), l.foldl (fun n t => min n (t.size : Int)) n ≤ n ∧ (∀ s ∈ l, l.foldl (fun n t => min n (t.size : Int)) n ≤ (s.size : Int)) ∧
        (l.foldl (fun n t => min n (t.size : Int)) n = n ∨ ∃ s ∈ l, (s.size : Int) = l.foldl (fun n t => min n (t.size : Int)) n) by
      obtain ⟨h1, h2, h3⟩ := H l t.size
      refine ⟨?_, .inr ?_⟩
      · intro s hs
        rcases List.mem_cons.1 hs with rfl | hs
        · exact h1
        · exact h2 s hs
      · rcases h3 with h3 | ⟨s, hs, h3⟩
        · exact ⟨t, List.mem_cons_self, h3.symm⟩
        · exact ⟨s, List.mem_cons_of_mem _ hs, h3⟩
    intro l
    induction l with
    | nil => intro n; simp
    | cons s l ih =>
      intro n
      simp only [List.foldl_cons]
      obtain ⟨h1, h2, h3⟩ := ih (min n (s.size : Int))
      refine ⟨by omega, ?_, ?_⟩
      · intro t ht
        rcases List.mem_cons.1 ht with rfl | ht
        · omega
        · exact h2 t ht
      · rcases h3 with h3 | ⟨t, ht, h3⟩
        · by_cases hn : (s.size : Int) < n
          · exact .inr ⟨s, List.mem_cons_self, by omega⟩
          · exact .inl (by omega)
        · exact .inr ⟨t, List.mem_cons_of_mem _ ht, h3⟩
theorem least_perm {l m : List ByteArray} (h : l.Perm m) : least l = least m := by
  obtain ⟨a1, a2⟩ := least_spec l
  obtain ⟨b1, b2⟩ := least_spec m
  rcases a2 with rfl | ⟨s, hs, a2⟩
  · rw [List.nil_perm.1 h]
  rcases b2 with rfl | ⟨t, ht, b2⟩
  · rw [List.perm_nil.1 h]
  have h1 := a1 t (h.mem_iff.2 ht)
  have h2 := b1 s (h.mem_iff.1 hs)
  omega
end Pl

/-- A set's block. -/
def SetAt (w : World) (g : Nat) (xs : List ByteArray) : Prop := ∃ v, Blk w g 100 #[v, .int .i64 (least xs), .int .i64 (most xs), .int .i64 (total xs)] ∧ SlS w v xs
/-- A pointer to a set, or none. -/
def SetV (w : World) (v : Value) (xs : List ByteArray) : Prop := (v = .pointer none ∧ xs = []) ∨ ∃ g, v = .pointer (some ⟨g, 0, none⟩) ∧ SetAt w g xs ∧ xs ≠ []
theorem SetAt.below {w w1 : World} {g : Nat} {xs : List ByteArray} (h : SetAt w g xs) (hb : Below w.heap.size w w1) : SetAt w1 g xs := by
  obtain ⟨v, h1, h2⟩ := h
  exact ⟨v, h1.below hb h1.lt, h2.below hb⟩
theorem SetV.below {w w1 : World} {v : Value} {xs : List ByteArray} (h : SetV w v xs) (hb : Below w.heap.size w w1) : SetV w1 v xs := by
  rcases h with h | ⟨g, h1, h2, h3⟩
  · exact .inl h
  · exact .inr ⟨g, h1, h2.below hb, h3⟩
theorem SetV.none_ (w : World) : SetV w (.pointer none) [] := .inl ⟨rfl, rfl⟩
end Go.Proofs.Ythgjckibnojnpaa

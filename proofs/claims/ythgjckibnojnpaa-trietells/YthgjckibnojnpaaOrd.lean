/- Plain facts on texts (lists of bytes) and lists, without any program: common beginnings and ends, order. -/
import Derived.Sort.LotA
import Derived.Laws.Strings
namespace Go.Proofs.Ythgjckibnojnpaa.Pl

/-- A string's bytes. -/
abbrev tx (s : ByteArray) : List UInt8 := s.data.toList

theorem tx_length (s : ByteArray) : (tx s).length = s.size := by cases s; rfl
theorem tx_inj {a b : ByteArray} (h : tx a = tx b) : a = b := by
  cases a; cases b; congr 1; exact Array.ext' h
theorem tx_get (s : ByteArray) (i : Nat) (h : i < s.size) : s[i] = (tx s)[i]'(by rw [tx_length]; exact h) := by
  rw [Array.getElem_toList]; rfl

theorem empty_iff (s : ByteArray) : s.toList = [] ↔ s.size = 0 := by
  rw [ByteArray.toList_eq, ← tx_length, List.length_eq_zero_iff]
theorem isEmpty_true {s : ByteArray} (h : s.size = 0) : s.toList.isEmpty = true := by rw [List.isEmpty_iff]; exact (empty_iff s).2 h
theorem isEmpty_false {s : ByteArray} (h : ¬ s.size = 0) : s.toList.isEmpty = false := by
  cases hx : s.toList.isEmpty with
  | false => rfl
  | true => exact absurd ((empty_iff s).1 (List.isEmpty_iff.1 hx)) h
theorem size_zero {s : ByteArray} (h : s.size = 0) : s = ByteArray.empty := by
  apply tx_inj
  have h1 : (tx s).length = 0 := by rw [tx_length]; exact h
  rw [List.length_eq_zero_iff.1 h1]
  rfl
theorem toList_inj {a b : ByteArray} : a.toList = b.toList ↔ a = b := by
  rw [ByteArray.toList_eq, ByteArray.toList_eq]
  exact ⟨fun h => tx_inj h, fun h => by rw [h]⟩

/-- With how many bytes two texts begin alike. -/
def pre : List UInt8 → List UInt8 → Nat
  | x :: a, y :: b => if x = y then pre a b + 1 else 0
  | _, _ => 0

theorem pre_le : ∀ a b : List UInt8, pre a b ≤ a.length ∧ pre a b ≤ b.length
  | [], b => by simp [pre]
  | _ :: _, [] => by simp [pre]
  | x :: a, y :: b => by
    have h := pre_le a b
    unfold pre
    split <;> simp <;> omega

theorem pre_same : ∀ (a b : List UInt8) (j : Nat), j < pre a b → a[j]? = b[j]?
  | [], b, j, h => by simp [pre] at h
  | _ :: _, [], j, h => by simp [pre] at h
  | x :: a, y :: b, j, h => by
    unfold pre at h
    split at h
    · rename_i e
      cases j with
      | zero => simp [e]
      | succ j => simpa using pre_same a b j (by omega)
    · omega

theorem pre_eq : ∀ (a b : List UInt8) (i : Nat), i ≤ a.length → i ≤ b.length → (∀ j, j < i → a[j]? = b[j]?) → (i < a.length → i < b.length → a[i]? ≠ b[i]?) → pre a b = i
  | [], b, i, h, _, _, _ => by simp at h; simp [pre, h]
  | _ :: _, [], i, _, h, _, _ => by simp at h; simp [pre, h]
  | x :: a, y :: b, 0, _, _, _, hd => by
    have := hd (by simp) (by simp)
    simp at this
    simp [pre, this]
  | x :: a, y :: b, i + 1, h1, h2, hs, hd => by
    have h0 := hs 0 (by omega)
    simp at h0
    have := pre_eq a b i (by simpa using h1) (by simpa using h2) (fun j hj => by simpa using hs (j + 1) (by omega)) (fun p q => by simpa using hd (by simpa using p) (by simpa using q))
    simp [pre, h0, this]

/-- The model's order on strings is the order of lists of bytes. -/
theorem less_eq : ∀ (x y : List UInt8), Op.bytesLess x y = decide (x < y)
  | [], [] => by simp [Op.bytesLess]
  | _ :: _, [] => by simp [Op.bytesLess]
  | [], _ :: _ => by simp [Op.bytesLess]
  | a :: x, b :: y => by
    rw [Op.bytesLess, less_eq x y]
    simp only [List.cons_lt_cons_iff]
    by_cases h1 : a < b <;> by_cases h2 : a = b <;> by_cases h3 : x < y <;> simp [h1, h2, h3]

/-- What the program's own comparison computes out of the common beginning. -/
def cmpS (a b : List UInt8) : Int :=
  if pre a b = a.length ∧ pre a b = b.length then 0
  else if pre a b = a.length ∨ pre a b < b.length ∧ a.getD (pre a b) 0 < b.getD (pre a b) 0 then -1 else 1

theorem cmpS_lt : ∀ (a b : List UInt8), cmpS a b < 0 ↔ a < b
  | [], [] => by simp [cmpS, pre]
  | [], _ :: _ => by simp [cmpS, pre]
  | _ :: _, [] => by simp [cmpS, pre]
  | x :: a, y :: b => by
    have ih := cmpS_lt a b
    by_cases e : x = y
    · subst e
      have : cmpS (x :: a) (x :: b) = cmpS a b := by simp [cmpS, pre]
      rw [this, ih]
      simp [List.cons_lt_cons_iff]
    · have h : pre (x :: a) (y :: b) = 0 := by simp [pre, e]
      simp only [cmpS, h, List.length_cons, List.cons_lt_cons_iff, e]
      by_cases hl : x < y <;> simp [hl]
end Go.Proofs.Ythgjckibnojnpaa.Pl

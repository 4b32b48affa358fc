/- The references of layer 12, plainly. -/
import Derived.Test.YthgjckibnojnpaaKit
import Derived.Test.YthgjckibnojnpaaBuckM
import Derived.Test.YthgjckibnojnpaaPAJuratref12Least
import Derived.Test.YthgjckibnojnpaaPAJuratref12Bytes
import Derived.Test.YthgjckibnojnpaaPAJuratref01Same
set_option linter.unusedVariables false
set_option linter.unusedSimpArgs false
namespace Go.Proofs.Ythgjckibnojnpaa
open Go.RowKit Go.Proofs.YthgjckibnojnpaaW.PrintWords PA Pl

theorem ofR_l0 (xs : List ByteArray) (h : Tame xs) (c : Int) (d : Nat) : ∀ k : Nat, k + d = xs.length → Ev (fun n => juratref12_Of.l0 n xs c (idsTo xs k c) k) (idsTo xs xs.length c) := by
  induction d with
  | zero =>
    intro k hk
    obtain rfl : k = xs.length := by omega
    exact Ev.step (fun n => by rw [juratref12_Of.l0]) (ev_neg (by omega) ev_now)
  | succ d ih =>
    intro k hk
    have hlt : k < xs.length := by omega
    have hsz := h.size _ (List.getElem_mem hlt)
    have h0 := h.len
    have hL := idsTo_le xs k c
    have hgk : xs.getD k ByteArray.empty = xs[k] := by rw [List.getD_eq_getElem?_getD, List.getElem?_eq_getElem hlt]; rfl
    have hne : xs[k].toList ≠ [] := fun e => by have := (empty_iff _).1 e; omega
    have hs := idsTo_succ xs k c
    rw [hgk] at hs
    have e := ih (k + 1) (by omega)
    refine Ev.step (fun n => by rw [juratref12_Of.l0]) ?_
    simp only [rdOf_at xs k hlt, wrap_nat (show k < 9223372036854775807 by omega), wrap_in (x := (xs[k].size : Int) - 1) (by omega) (by omega)]
    refine ev_pos (by omega) (ev_pos (by omega) (ev_neg hne (ev_pos (by omega) (ev_pos (by omega) ?_))))
    by_cases hb : bt xs[k] ((xs[k].size : Int) - 1) = c
    · rw [if_pos (show lastB xs[k] = c from hb)] at hs
      rw [hs] at e
      exact ev_pos hb (ev_pos (by omega) e)
    · rw [if_neg (show ¬ lastB xs[k] = c from hb)] at hs
      rw [hs] at e
      exact ev_neg hb e
theorem ofR_ev (xs : List ByteArray) (h : Tame xs) (c : Int) : Ev (fun n => juratref12_Of.f n xs c) (idsTo xs xs.length c) := by
  unfold juratref12_Of.f
  exact ofR_l0 xs h c xs.length 0 (by omega)

theorem idsTo_mem {xs : List ByteArray} {k : Nat} {c i : Int} (h : i ∈ idsTo xs k c) : 0 ≤ i ∧ i < k := by
  unfold idsTo at h
  obtain ⟨j, hj, rfl⟩ := List.mem_map.1 h
  have := (List.mem_filter.1 hj).1
  rw [List.mem_range] at this
  omega
/-- The least of the first so many lengths. -/
theorem leastR12_l0 (xs : List ByteArray) (hlen : xs.length ≤ 65535) (hf : ∀ s ∈ xs, s.size ≤ 65535) (ids : List Int) (hids : ∀ i ∈ ids, 0 ≤ i ∧ i < xs.length) (hl : ids.length ≤ 65535) (d : Nat) :
    ∀ k : Nat, k + d = ids.length → Ev (fun n => juratref12_Least.l0 n xs (mn ((ids.take k).map (fun i => ((rdOf ByteArray.empty xs i).size : Int)))) ids k) (mn (ids.map (fun i => ((rdOf ByteArray.empty xs i).size : Int)))) := by
  induction d with
  | zero =>
    intro k hk
    obtain rfl : k = ids.length := by omega
    exact Ev.step (fun n => by rw [juratref12_Least.l0]) (ev_neg (by omega) (ev_eq ev_now (by rw [List.take_length])))
  | succ d ih =>
    intro k hk
    have hlt : k < ids.length := by omega
    have hi := hids _ (List.getElem_mem hlt)
    have e := ih (k + 1) (by omega)
    have htk : ids.take (k + 1) = ids.take k ++ [ids[k]] := List.take_succ_eq_append_getElem hlt
    rw [htk, List.map_append, List.map_singleton, mn_snoc] at e
    have hrd : rd ids k = ids[k] := by simp [rd, List.getElem?_eq_getElem hlt]
    refine Ev.step (fun n => by rw [juratref12_Least.l0]) ?_
    simp only [hrd, wrap_nat (show k < 9223372036854775807 by omega)]
    refine ev_pos (by omega) ?_
    by_cases h0 : (k : Int) = 0
    · rw [if_pos (.inl (by obtain rfl : k = 0 := by omega
                           rfl))] at e
      exact ev_pos h0 (ev_pos (by omega) (ev_pos (by omega) (ev_pos (by omega) e)))
    · have hne : ¬ (ids.take k).map (fun i => ((rdOf ByteArray.empty xs i).size : Int)) = [] := fun e => by
        have := congrArg List.length e
        rw [List.length_map, List.length_take, List.length_nil] at this
        omega
      refine ev_neg h0 (ev_pos (by omega) (ev_pos (by omega) (ev_pos (by omega) ?_)))
      by_cases h2 : ((rdOf ByteArray.empty xs ids[k]).size : Int) < mn ((ids.take k).map (fun i => ((rdOf ByteArray.empty xs i).size : Int)))
      · rw [if_pos (.inr h2)] at e
        exact ev_pos h2 e
      · rw [if_neg (fun h => h.elim hne h2)] at e
        exact ev_neg h2 e
theorem leastR12_ev (xs : List ByteArray) (h : Tame xs) (c : Int) : Ev (fun n => juratref12_Least.f n xs c) (mn (lensTo xs xs.length c)) := by
  unfold juratref12_Least.f
  have h0 := h.len
  have hL := idsTo_le xs xs.length c
  exact ev_bind (ofR_ev xs h c) (leastR12_l0 xs h.len (fun s hs => (h.size s hs).2) _ (fun i (hi : i ∈ idsTo xs xs.length c) => idsTo_mem hi) (by omega) (idsTo xs xs.length c).length 0 (by omega))
theorem bytesR_l0 (xs : List ByteArray) (h : Tame xs) (d : Nat) : ∀ k : Nat, k + d = 256 → Ev (fun n => juratref12_Bytes.l0 n xs (bytesTo xs k) k) (strOfNums (bytesTo xs 256)) := by
  induction d with
  | zero =>
    intro k hk
    obtain rfl : k = 256 := by omega
    exact Ev.step (fun n => by rw [juratref12_Bytes.l0]) (ev_neg (by omega) ev_now)
  | succ d ih =>
    intro k hk
    have hs := bytesTo_succ xs k
    have e := ih (k + 1) (by omega)
    have hle := bytesTo_le xs k
    refine Ev.step (fun n => by rw [juratref12_Bytes.l0]) ?_
    have hm : (k : Int) % 256 = k := by omega
    simp only [hm, wrap_nat (show k < 9223372036854775807 by omega)]
    refine ev_pos (by omega) (ev_bind (ofR_ev xs h k) ?_)
    by_cases hp : 0 < (idsTo xs xs.length (k : Int)).length
    · rw [if_pos hp] at hs
      rw [hs] at e
      exact ev_pos (by omega) (ev_pos (by omega) e)
    · rw [if_neg hp] at hs
      rw [hs] at e
      exact ev_neg (by omega) e
theorem bytesR_ev (xs : List ByteArray) (h : Tame xs) : Ev (fun n => juratref12_Bytes.f n xs) (strOfNums (bytesTo xs 256)) := by
  unfold juratref12_Bytes.f
  exact bytesR_l0 xs h 256 0 (by omega)
theorem sameR_l0 (a b : List Int) (hl : a.length = b.length) (hm : a.length ≤ 65535) (d : Nat) : ∀ k : Nat, k + d = a.length → a.take k = b.take k → Ev (fun n => juratref01_Same.l0 n a b k) (decide (a = b)) := by
  induction d with
  | zero =>
    intro k hk ht
    obtain rfl : k = a.length := by omega
    have e : a = b := by rw [List.take_length, hl, List.take_length] at ht; exact ht
    exact Ev.step (fun n => by rw [juratref01_Same.l0]) (ev_neg (by omega) (ev_eq ev_now (by rw [e]; simp)))
  | succ d ih =>
    intro k hk ht
    have h1 : k < a.length := by omega
    have h2 : k < b.length := by omega
    have r1 : rd a k = a[k] := by simp [rd, List.getElem?_eq_getElem h1]
    have r2 : rd b k = b[k] := by simp [rd, List.getElem?_eq_getElem h2]
    refine Ev.step (fun n => by rw [juratref01_Same.l0]) ?_
    simp only [r1, r2, wrap_nat (show k < 9223372036854775807 by omega)]
    refine ev_pos (by omega) (ev_pos (by omega) (ev_pos (by omega) ?_))
    by_cases e : a[k] = b[k]
    · exact ev_pos e (ih (k + 1) (by omega) (by rw [List.take_succ_eq_append_getElem h1, List.take_succ_eq_append_getElem h2, ht, e]))
    · refine ev_neg e (ev_eq ev_now ?_)
      have : a ≠ b := fun h => e (by subst h; rfl)
      simp [this]
theorem sameR_ev (a b : List Int) (hm : a.length ≤ 65535) : Ev (fun n => juratref01_Same.f n a b) (decide (a = b)) := by
  unfold juratref01_Same.f
  by_cases hl : a.length = b.length
  · exact ev_pos (by omega) (sameR_l0 a b hl hm a.length 0 (by omega) rfl)
  · refine ev_neg (by omega) (ev_eq ev_now ?_)
    have : a ≠ b := fun h => hl (by rw [h])
    simp [this]
theorem sameCall (A : Option Addr) (c : Nat) (a : List Int) (A' : Option Addr) (c' : Nat) (b : List Int) (w : World) (hr : Kd.C (Kd.int .i64) w A a.length a) (hc : a.length ≤ c) (hr' : Kd.C (Kd.int .i64) w A' b.length b) (hc' : b.length ≤ c') (hm : a.length ≤ 65535) :
    Calls Try.prog 29 #[.slice A a.length c, .slice A' b.length c'] w fun e w' => e = .returned (.bool (decide (a = b))) ∧ ∃ n, w' = w.drewN n := by
  obtain ⟨k, hk⟩ := (sameR_ev a b hm).rounds
  exact (juratref01_Same.calls k A c a A' c' b _ w hr hc hr' hc' hk).mono fun _ _ ⟨h1, h2⟩ => ⟨h1, h2.out⟩
section
variable {xs : List ByteArray} (h : Tame xs)
include h
theorem refOf12 (A : Option Addr) (c : Nat) (b : Int) (w : World) (hr : Kd.C Kd.string w A xs.length xs) (hc : xs.length ≤ c) :
    Calls Try.prog 31 #[.slice A xs.length c, .int .u8 b] w fun e w' => ∃ v, e = .returned v ∧ SlI w' v (idsTo xs xs.length b) ∧ Below w.heap.size w w' := by
  obtain ⟨k, hk⟩ := (ofR_ev xs h b).rounds
  exact (juratref12_Of.calls k A c xs b _ w hr hc hk).mono fun _ _ ⟨v, h1, h2, h3⟩ => ⟨v, h1, Sl.of_R h2, h3⟩
theorem refLeast12 (A : Option Addr) (c : Nat) (b : Int) (w : World) (hr : Kd.C Kd.string w A xs.length xs) (hc : xs.length ≤ c) :
    Calls Try.prog 33 #[.slice A xs.length c, .int .u8 b] w fun e w' => e = .returned (.int .i64 (mn (lensTo xs xs.length b))) ∧ Below w.heap.size w w' := by
  obtain ⟨k, hk⟩ := (leastR12_ev xs h b).rounds
  exact juratref12_Least.calls k A c xs b _ w hr hc hk
theorem refBytes12 (A : Option Addr) (c : Nat) (w : World) (hr : Kd.C Kd.string w A xs.length xs) (hc : xs.length ≤ c) :
    Calls Try.prog 35 #[.slice A xs.length c] w fun e w' => e = .returned (.string (strOfNums (bytesTo xs 256))) ∧ Below w.heap.size w w' := by
  obtain ⟨k, hk⟩ := (bytesR_ev xs h).rounds
  exact juratref12_Bytes.calls k A c xs _ w hr hc hk
end
end Go.Proofs.Ythgjckibnojnpaa

/- The states of the trie, as the reference tells them. -/
import Derived.Test.YthgjckibnojnpaaKit
import Derived.Test.YthgjckibnojnpaaTrieP
import Derived.Test.YthgjckibnojnpaaPAJuratref16States
import Derived.Test.YthgjckibnojnpaaPAJuratref16Find
import Derived.Test.YthgjckibnojnpaaPAJuratref10Find
set_option linter.unusedVariables false
set_option linter.unusedSimpArgs false
namespace Go.Proofs.Ythgjckibnojnpaa
open Go.RowKit Go.Proofs.YthgjckibnojnpaaW.PrintWords PA Pl

theorem lastAt (acc : List ByteArray) (h : acc ≠ []) (hl : acc.length ≤ 4294967296) : wrap64 ((acc.length : Int) - 1) = ((acc.length - 1 : Nat) : Int) ∧ rdOf ByteArray.empty acc ((acc.length - 1 : Nat) : Int) = acc.getLast?.getD ByteArray.empty := by
  have hp := List.length_pos_iff.2 h
  refine ⟨(wrap_in (by omega) (by omega)).trans (by omega), ?_⟩
  rw [rdOf_at _ _ (by omega), List.getLast?_eq_getElem?, List.getElem?_eq_getElem (by omega)]
  rfl
/-- One level's texts, from number k on. -/
theorem stR_l2 (xs : List ByteArray) (hx : xs.length ≤ 65535) (L n : Nat) (hn : n ≤ 65536) (r : List ByteArray) (rest : ∀ acc, acc = stLevel xs n (stUpto xs (n - 1)) → Ev (fun m => juratref16_States.l1 m xs acc L ((n + 1 : Nat) : Int)) r) (d : Nat) :
    ∀ k : Nat, k + d = xs.length → Ev (fun m => juratref16_States.l2 m xs ((xs.take k).foldl (stStep n) (stUpto xs (n - 1))) L n k) r := by
  induction d with
  | zero =>
    intro k hk
    obtain rfl : k = xs.length := by omega
    refine Ev.step (fun m => by rw [juratref16_States.l2]) (ev_neg (by omega) ?_)
    rw [wrap_nat (show n < 9223372036854775807 by omega), List.take_length]
    exact rest _ rfl
  | succ d ih =>
    intro k hk
    have hlt : k < xs.length := by omega
    have e := ih (k + 1) (by omega)
    rw [List.take_succ_eq_append_getElem hlt, List.foldl_append] at e
    have hne := fold_ne n (xs.take k) _ (stUpto_ne xs (n - 1))
    have hl := fold_len n (xs.take k) (stUpto xs (n - 1))
    have hl2 := stUpto_len xs (n - 1)
    have hl3 : (n - 1) * xs.length ≤ 65535 * 65535 := Nat.mul_le_mul (by omega) hx
    rw [List.length_take] at hl
    generalize (xs.take k).foldl (stStep n) (stUpto xs (n - 1)) = acc at e hne hl ⊢
    obtain ⟨l1, l2⟩ := lastAt acc hne (by omega)
    have hp := List.length_pos_iff.2 hne
    simp only [List.foldl_cons, List.foldl_nil] at e
    refine Ev.step (fun m => by rw [juratref16_States.l2]) (ev_pos (by omega) (ev_pos (by omega) ?_))
    simp only [rdOf_at xs k hlt, wrap_nat (show k < 9223372036854775807 by omega), l1, l2, Int.toNat_natCast]
    by_cases h1 : n ≤ xs[k].size
    · refine ev_pos (by omega) (ev_pos (by omega) (ev_pos (by omega) (ev_pos (by omega) (ev_pos (by omega) ?_))))
      by_cases h2 : beg xs[k] n = acc.getLast?.getD ByteArray.empty
      · refine ev_pos (toList_inj.2 h2) ?_
        rw [stStep, if_neg (fun h => h.2 h2)] at e
        exact e
      · refine ev_neg (fun h => h2 (toList_inj.1 h)) (ev_pos (by omega) ?_)
        rw [stStep, if_pos ⟨h1, h2⟩] at e
        exact e
    · refine ev_neg (by omega) ?_
      rw [stStep, if_neg (fun h => h1 h.1)] at e
      exact e
theorem stR_l1 (xs : List ByteArray) (hx : xs.length ≤ 65535) (L : Nat) (hL : L ≤ 65535) (d : Nat) : ∀ n : Nat, 0 < n → n + d = L + 1 → Ev (fun m => juratref16_States.l1 m xs (stUpto xs (n - 1)) L n) (stUpto xs L) := by
  induction d with
  | zero =>
    intro n hn hd
    obtain rfl : n = L + 1 := by omega
    rw [Nat.add_sub_cancel]
    exact Ev.step (fun m => by rw [juratref16_States.l1]) (ev_neg (by omega) ev_now)
  | succ d ih =>
    intro n hn hd
    refine Ev.step (fun m => by rw [juratref16_States.l1]) (ev_pos (by omega) ?_)
    have e := ih (n + 1) (by omega) (by omega)
    refine stR_l2 xs hx L n (by omega) _ (fun acc ha => ?_) xs.length 0 (by omega)
    have h1 : stUpto xs (n + 1 - 1) = acc := by
      rw [ha, Nat.add_sub_cancel]
      obtain ⟨j, rfl⟩ : ∃ j, n = j + 1 := ⟨n - 1, by omega⟩
      rfl
    rw [h1] at e
    exact e
theorem longest_snoc (xs : List ByteArray) (s : ByteArray) : longest (xs ++ [s]) = max (longest xs) s.size := by simp [longest]
theorem longest_le {xs : List ByteArray} (h : ∀ s ∈ xs, s.size ≤ 65535) (k : Nat) : longest (xs.take k) ≤ 65535 := by
  induction k with
  | zero => simp [longest]
  | succ k ih =>
    rcases Nat.lt_or_ge k xs.length with hlt | hge
    · rw [List.take_succ_eq_append_getElem hlt, longest_snoc]
      have := h _ (List.getElem_mem hlt)
      omega
    · rw [List.take_of_length_le (by omega)] at ih ⊢
      exact ih
theorem stR_l0 (xs : List ByteArray) (hT : Tame xs) (d : Nat) : ∀ k : Nat, k + d = xs.length → Ev (fun m => juratref16_States.l0 m xs [ByteArray.empty] (longest (xs.take k)) k) (stUpto xs (longest xs)) := by
  induction d with
  | zero =>
    intro k hk
    obtain rfl : k = xs.length := by omega
    refine Ev.step (fun m => by rw [juratref16_States.l0]) (ev_neg (by omega) ?_)
    have h1 := longest_le (fun s hs => (hT.size s hs).2) xs.length
    rw [List.take_length] at h1 ⊢
    exact stR_l1 xs hT.len _ h1 (longest xs) 1 (by omega) (by omega)
  | succ d ih =>
    intro k hk
    have hlt : k < xs.length := by omega
    have h0 := hT.len
    have hs := hT.size _ (List.getElem_mem hlt)
    have e := ih (k + 1) (by omega)
    rw [List.take_succ_eq_append_getElem hlt, longest_snoc] at e
    refine Ev.step (fun m => by rw [juratref16_States.l0]) (ev_pos (by omega) (ev_pos (by omega) ?_))
    simp only [rdOf_at xs k hlt, wrap_nat (show k < 9223372036854775807 by omega)]
    by_cases h : longest (xs.take k) < xs[k].size
    · rw [Nat.max_eq_right (by omega)] at e
      exact ev_pos (by omega) e
    · rw [Nat.max_eq_left (by omega)] at e
      exact ev_neg (by omega) e
theorem statesR_ev (xs : List ByteArray) (hT : Tame xs) : Ev (fun m => juratref16_States.f m xs) (stOf xs) := by
  unfold juratref16_States.f
  exact stR_l0 xs hT xs.length 0 (by omega)
theorem refStates (A : Option Addr) (c : Nat) (xs : List ByteArray) (w : World) (hr : Kd.C Kd.string w A xs.length xs) (hc : xs.length ≤ c) (hT : Tame xs) :
    Calls Try.prog 50 #[.slice A xs.length c] w fun e w' => ∃ v, e = .returned v ∧ SlS w' v (stOf xs) ∧ Below w.heap.size w w' := by
  obtain ⟨k, hk⟩ := (statesR_ev xs hT).rounds
  exact (juratref16_States.calls k A c xs _ w hr hc hk).mono fun _ _ ⟨v, h1, h2, h3⟩ => ⟨v, h1, Sl.of_R h2, h3⟩
/-- What the number of a text among texts is; -1: none. -/
def FindIs (xs : List ByteArray) (p : ByteArray) (v : Int) : Prop := (v = -1 ∧ p ∉ xs) ∨ ∃ k : Nat, v = k ∧ xs[k]? = some p ∧ p ∉ xs.take k
theorem findR_l0 (xs : List ByteArray) (hx : xs.length ≤ 4294967296) (p : ByteArray) (d : Nat) : ∀ k : Nat, k + d = xs.length → p ∉ xs.take k → ∃ v, FindIs xs p v ∧ Ev (fun m => juratref16_Find.l0 m xs p k) v := by
  induction d with
  | zero =>
    intro k hk hp
    rw [List.take_of_length_le (by omega)] at hp
    exact ⟨-1, .inl ⟨rfl, hp⟩, Ev.step (fun m => by rw [juratref16_Find.l0]) (ev_neg (by omega) ev_now)⟩
  | succ d ih =>
    intro k hk hp
    have hlt : k < xs.length := by omega
    by_cases h : xs[k] = p
    · refine ⟨k, .inr ⟨k, rfl, by rw [List.getElem?_eq_getElem hlt, h], hp⟩, Ev.step (fun m => by rw [juratref16_Find.l0]) (ev_pos (by omega) (ev_pos (by omega) ?_))⟩
      simp only [rdOf_at xs k hlt]
      exact ev_pos (toList_inj.2 h) ev_now
    · obtain ⟨v, h1, h2⟩ := ih (k + 1) (by omega) (fun hm => by
        rw [List.take_succ_eq_append_getElem hlt, List.mem_append, List.mem_singleton] at hm
        exact hm.elim hp (fun e => h e.symm))
      refine ⟨v, h1, Ev.step (fun m => by rw [juratref16_Find.l0]) (ev_pos (by omega) (ev_pos (by omega) ?_))⟩
      simp only [rdOf_at xs k hlt, wrap_nat (show k < 9223372036854775807 by omega)]
      exact ev_neg (fun e => h (toList_inj.1 e)) h2
theorem refFind16 (A : Option Addr) (c : Nat) (xs : List ByteArray) (p : ByteArray) (w : World) (hr : Kd.C Kd.string w A xs.length xs) (hc : xs.length ≤ c) (hx : xs.length ≤ 4294967296) :
    ∃ v, FindIs xs p v ∧ Calls Try.prog 51 #[.slice A xs.length c, .string p] w fun e w' => e = .returned (.int .i64 v) ∧ ∃ n, w' = w.drewN n := by
  obtain ⟨v, h1, h2⟩ := findR_l0 xs hx p xs.length 0 (by omega) (by simp)
  obtain ⟨k, hk⟩ := h2.rounds
  exact ⟨v, h1, (juratref16_Find.calls k A c xs p _ w hr hc hk).mono fun _ _ ⟨h1, h2⟩ => ⟨h1, h2.out⟩⟩
theorem findR10_l0 (xs : List ByteArray) (hx : xs.length ≤ 4294967296) (p : ByteArray) (d : Nat) : ∀ k : Nat, k + d = xs.length → p ∉ xs.take k → ∃ v, FindIs xs p v ∧ Ev (fun m => juratref10_Find.l0 m xs p k) v := by
  induction d with
  | zero =>
    intro k hk hp
    rw [List.take_of_length_le (by omega)] at hp
    exact ⟨-1, .inl ⟨rfl, hp⟩, Ev.step (fun m => by rw [juratref10_Find.l0]) (ev_neg (by omega) ev_now)⟩
  | succ d ih =>
    intro k hk hp
    have hlt : k < xs.length := by omega
    by_cases h : xs[k] = p
    · refine ⟨k, .inr ⟨k, rfl, by rw [List.getElem?_eq_getElem hlt, h], hp⟩, Ev.step (fun m => by rw [juratref10_Find.l0]) (ev_pos (by omega) (ev_pos (by omega) ?_))⟩
      simp only [rdOf_at xs k hlt]
      exact ev_pos (toList_inj.2 h) ev_now
    · obtain ⟨v, h1, h2⟩ := ih (k + 1) (by omega) (fun hm => by
        rw [List.take_succ_eq_append_getElem hlt, List.mem_append, List.mem_singleton] at hm
        exact hm.elim hp (fun e => h e.symm))
      refine ⟨v, h1, Ev.step (fun m => by rw [juratref10_Find.l0]) (ev_pos (by omega) (ev_pos (by omega) ?_))⟩
      simp only [rdOf_at xs k hlt, wrap_nat (show k < 9223372036854775807 by omega)]
      exact ev_neg (fun e => h (toList_inj.1 e)) h2
theorem refFind10 (A : Option Addr) (c : Nat) (xs : List ByteArray) (p : ByteArray) (w : World) (hr : Kd.C Kd.string w A xs.length xs) (hc : xs.length ≤ c) (hx : xs.length ≤ 4294967296) :
    ∃ v, FindIs xs p v ∧ Calls Try.prog 53 #[.slice A xs.length c, .string p] w fun e w' => e = .returned (.int .i64 v) ∧ ∃ n, w' = w.drewN n := by
  obtain ⟨v, h1, h2⟩ := findR10_l0 xs hx p xs.length 0 (by omega) (by simp)
  obtain ⟨k, hk⟩ := h2.rounds
  exact ⟨v, h1, (juratref10_Find.calls k A c xs p _ w hr hc hk).mono fun _ _ ⟨h1, h2⟩ => ⟨h1, h2.out⟩⟩
end Go.Proofs.Ythgjckibnojnpaa
